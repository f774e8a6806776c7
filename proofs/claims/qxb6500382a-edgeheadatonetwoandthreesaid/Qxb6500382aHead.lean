import Derived.Test.Qxb6500382aDesk
namespace Go.Proofs.Qxb6500382a
open Go.RowKit Go.Shelf
attribute [local go_sem ↓] Go.wp_at_zero Go.wp_at_succ
variable {B d s row cap : Nat} {cur : Array Value} {b1 b2 b3 : Nat} {W : World}

theorem wpAt_headw {P : Program} {f : FuncId} {x y : Code} {Q : Exit → Act → World → Prop} {a : Act} {w : World} (h : ∀ K : Act → World → Prop, (∀ a w, wpAt f P y Q a w → K a w) → x.wp P (Exit.then K (fun _ _ _ => False)) a w) :
    wpAt f P (Code.seq x y) Q a w := wpAt_head 5 fun K hK => wpIn_wide.2 (h K hK)

set_option maxRecDepth 100000 in
set_option maxHeartbeats 4000000 in
theorem head_any (h : DS B d s row cap cur b1 b2 b3 W) (n : Nat) (hn1 : 1 ≤ n) (hn9 : n ≤ 9) :
    Calls Try.prog 9 #[.pointer (some ⟨d, 0, none⟩), .int .i64 0, .int .i64 n] W fun e V => e = .returned (.agg (ans n)) ∧ DS B d s row cap cur b1 b2 b3 V ∧ MvX B [d, s] W V := by
  obtain ⟨o1, o2, o3, o4, o5⟩ := h.out
  have HH : Hid _ := h
  refine calls_at Try.func9 rfl ?_
  simp only [Try.ntmps9, List.size_toArray, List.length_cons, List.length_nil, Nat.reduceAdd, Nat.reduceSub, Array.replicate_succ, Array.replicate_zero, List.push_toArray, List.append_toArray, List.nil_append, List.cons_append]
  clear h
  refine wpAt_headw ?_
  intro K hK
  have HK : Hid _ := hK
  clear hK
  go_wp2_with fail
  refine HK.out _ _ ?_
  clear HK K
  have H1 : Hid _ := head_start HH.out n
  revert H1
  generalize (((W.alloc (.cells #[.pointer (some ⟨d, 0, none⟩)] 22)).alloc (.cells #[.int .i64 0] 3)).alloc (.cells #[.int .i64 n] 3)).alloc (.cells #[.int .i64 0, .int .i64 0, .int .i64 0, .string { data := #[] }] 26) = V
  generalize e3 : W.heap.size + 1 + 1 + 1 = ba
  generalize e2 : W.heap.size + 1 + 1 = bn
  generalize e1 : W.heap.size + 1 = bi
  generalize e0 : W.heap.size = bd
  intro H1
  have E : Hid (W.heap.size = bd ∧ W.heap.size + 3 = ba) := ⟨e0, e3⟩
  clear e0 e1 e2 e3
  obtain ⟨c1, c2, c3, c4, c5, c6, ⟨c7, c8⟩, c9, c10, c11⟩ := H1.out.cells HH.out
  -- not busy
  refine wpAt_headw ?_
  intro K hK
  have HK : Hid _ := hK
  clear hK
  go_wp2_with (go_at_call 11; refine (busy_no _ _ c5).mono ?_; rintro e w' ⟨rfl, rfl⟩)
  refine HK.out _ _ ?_
  clear HK K
  -- the index
  refine wpAt_headw ?_
  intro K hK
  have HK : Hid _ := hK
  clear hK
  go_wp2_with fail
  go_quiet (fail)
  go_wp2_with fail
  refine HK.out _ _ ?_
  clear HK K
  have H2 : Hid (HW n B d s row cap b3 bd bi bn ba W (w'.drewN nq)) := H1.out.drewN nq
  clear c1 c2 c3 c4 c5 c6 c8 c9 c10 c11 H1
  revert H2
  generalize w'.drewN nq = V2
  intro H2
  clear w' nq c7
  obtain ⟨c1, c2, c3, c4, c5, c6, ⟨c7, c8⟩, c9, c10, c11⟩ := H2.out.cells HH.out
  -- the count
  have hlt : decide ((n : Int) < 1) = false := by simp; omega
  refine wpAt_headw ?_
  intro K hK
  have HK : Hid _ := hK
  clear hK
  go_wp2_with fail
  refine HK.out _ _ ?_
  clear HK K hlt
  -- fresh
  have FR := fresh_any d row s cap _ _ V2 c4 c6 c8 c9 c10 c11
  have F2 : Hid _ := H2.out.fresh HH.out
  clear c2 c3 c4 c5 c6 c8 c9 c10 c11 H2
  refine wpAt_headw ?_
  intro K hK
  have HK : Hid _ := hK
  clear hK
  go_wp2_with (go_at_call 13; refine FR.mono ?_; rintro e w' ⟨rfl, rfl⟩)
  refine HK.out _ _ ?_
  clear HK K FR c1
  obtain ⟨h3, s3⟩ := F2.out
  have H3 : Hid _ := h3
  have S3 : Hid _ := s3
  clear h3 s3 F2
  revert H3 S3
  generalize (V2.setCell ⟨s, 6, none⟩ (.int .i64 0)).setCell ⟨s, 7, none⟩ (.bool false) = V3
  intro H3 S3
  clear V2 c7
  obtain ⟨c1, c2, c3, c4, c5, c6, cx⟩ := H3.out.cells HH.out
  clear c3 c5 cx
  -- the rescue is laid
  refine wpAt_headw ?_
  intro K hK
  have HK : Hid _ := hK
  clear hK
  go_wp2_with fail
  refine HK.out _ _ ?_
  clear HK K
  -- the sequence
  refine wpAt_seq ?_
  refine wpAt_headw ?_
  intro K hK
  have HK : Hid _ := hK
  clear hK
  refine wp_meet (A := ⟨#[.pointer (some ⟨d, 0, none⟩), .int .i64 0, .int .i64 n, .pointer (some ⟨bd, 0, none⟩), .pointer (some ⟨bi, 0, none⟩), .pointer (some ⟨bn, 0, none⟩), .pointer (some ⟨ba, 0, none⟩), undef, .pointer (some ⟨d, 0, none⟩), .bool false, undef, .int .i64 0, .bool false, .bool false, .int .i64 0, .pointer (some ⟨d, 0, none⟩), .pointer (some ⟨d, 0, none⟩), .pointer (some ⟨d, 0, none⟩), .slice (some ⟨row, 0, none⟩) 1 cap, .int .i64 1, .bool false, .bool false, undef, .int .i64 n, .bool false, undef, .pointer (some ⟨d, 0, none⟩), .tuple #[], .pointer (some ⟨d, 0, none⟩), .pointer (some ⟨d, 0, none⟩), .pointer (some ⟨d, 0, none⟩), .pointer (some ⟨d, 0, none⟩), .slice (some ⟨row, 0, none⟩) 1 cap, .int .i64 0, .pointer (some ⟨row, 0, none⟩), .pointer (some ⟨s, 0, none⟩), .int .i64 0, .pointer (some ⟨d, 0, none⟩), .pointer (some ⟨d, 0, none⟩), .pointer (some ⟨d, 1, none⟩), .func (.func 20) #[] #[.pointer (some ⟨V3.heap.size + 2, 0, none⟩), .pointer (some ⟨V3.heap.size + 1, 0, none⟩), .pointer (some ⟨V3.heap.size, 0, none⟩)], undef, undef, undef, undef, undef, undef, undef, undef, undef, undef, undef, undef, undef, undef, undef, undef], [{ target := .fn (.func 14) #[], args := #[.pointer (some ⟨d, 0, none⟩), .pointer (some ⟨ba, 0, none⟩)] }]⟩)
    (Wx := (((V3.alloc (.cells #[.pointer (some ⟨s, 0, none⟩)] 38)).alloc (.cells #[.int .i64 0] 3)).alloc (.cells #[.pointer (some ⟨d, 1, none⟩)] 50)).drew) ?_ ?_
  · clear HK HH H3 S3 E hn1 hn9 o1 o2 o3 o4 o5
    go_region_with (go_at_call 15; refine (seq_any _ _ _).mono ?_; rintro e w' ⟨rfl, rfl⟩)
    all_goals exact ⟨rfl, rfl⟩
  clear c1 c2 c4 c6
  refine HK.out _ _ ?_
  clear HK K
  have B0 : B ≤ W.heap.size := by omega
  have L1 : Hid _ := World.alloc_heap_new V3 (.cells #[.pointer (some ⟨s, 0, none⟩)] 38)
  have e2 := World.alloc_heap_new (V3.alloc (.cells #[.pointer (some ⟨s, 0, none⟩)] 38)) (.cells #[.int .i64 0] 3)
  have e3 := World.alloc_heap_new ((V3.alloc (.cells #[.pointer (some ⟨s, 0, none⟩)] 38)).alloc (.cells #[.int .i64 0] 3)) (.cells #[.pointer (some ⟨d, 1, none⟩)] 50)
  simp only [World.size_alloc] at e2 e3
  have H4 : Hid (HW n B d s row cap b3 bd bi bn ba W (((V3.alloc (.cells #[.pointer (some ⟨s, 0, none⟩)] 38)).alloc (.cells #[.int .i64 0] 3)).alloc (.cells #[.pointer (some ⟨d, 1, none⟩)] 50)).drew) := (((H3.out.alloc B0 _).alloc B0 _).alloc B0 _).drewN 1
  have S4 : Hid ((((V3.alloc (.cells #[.pointer (some ⟨s, 0, none⟩)] 38)).alloc (.cells #[.int .i64 0] 3)).alloc (.cells #[.pointer (some ⟨d, 1, none⟩)] 50)).drew.heap[s]? = some (srcO (.pointer (some ⟨b3, 0, none⟩)) 0 false)) := keep_alloc (keep_alloc (keep_alloc S3.out))
  have X1 : Hid ((((V3.alloc (.cells #[.pointer (some ⟨s, 0, none⟩)] 38)).alloc (.cells #[.int .i64 0] 3)).alloc (.cells #[.pointer (some ⟨d, 1, none⟩)] 50)).drew.heap[V3.heap.size]? = some (.cells #[.pointer (some ⟨s, 0, none⟩)] 38)) := keep_alloc (keep_alloc L1.out)
  have X2 : Hid ((((V3.alloc (.cells #[.pointer (some ⟨s, 0, none⟩)] 38)).alloc (.cells #[.int .i64 0] 3)).alloc (.cells #[.pointer (some ⟨d, 1, none⟩)] 50)).drew.heap[V3.heap.size + 1]? = some (.cells #[.int .i64 0] 3)) := keep_alloc e2
  have X3 : Hid ((((V3.alloc (.cells #[.pointer (some ⟨s, 0, none⟩)] 38)).alloc (.cells #[.int .i64 0] 3)).alloc (.cells #[.pointer (some ⟨d, 1, none⟩)] 50)).drew.heap[V3.heap.size + 2]? = some (.cells #[.pointer (some ⟨d, 1, none⟩)] 50)) := e3
  clear e2 e3 L1 H3 S3
  revert H4 S4 X1 X2 X3
  generalize (((V3.alloc (.cells #[.pointer (some ⟨s, 0, none⟩)] 38)).alloc (.cells #[.int .i64 0] 3)).alloc (.cells #[.pointer (some ⟨d, 1, none⟩)] 50)).drew = V4
  generalize V3.heap.size + 2 = bl
  generalize V3.heap.size + 1 = bc
  generalize V3.heap.size = bs
  intro H4 S4 X1 X2 X3
  clear V3
  refine wpAt_range (d := { target := .fn (.func 20) #[.pointer (some ⟨bl, 0, none⟩), .pointer (some ⟨bc, 0, none⟩), .pointer (some ⟨bs, 0, none⟩)], args := #[.func (.yield (V4.heap.size + 1)) #[] #[]] }) (fc := 20)
    (args := #[.func (.yield (V4.heap.size + 1)) #[] #[], .pointer (some ⟨bl, 0, none⟩), .pointer (some ⟨bc, 0, none⟩), .pointer (some ⟨bs, 0, none⟩)]) (run_enterLoop_outer _ _ _ _ _) (res_range rfl) rfl ?_
  refine Calls.mono (seq1 (head_pre HH.out hn1 hn9 H4.out S4.out X1.out X2.out X3.out (by have := E.out; omega) _ ?_ ?_)) ?_
  · exact ⟨rfl, rfl, rfl, _, _, _, _, _, _, _, _, _, _, _, _, _, _, _, _, _, _, _, _, _, _, _, _, _, _, _, _, _, _, _, _, _, _, _, _, _, _, _, _, _, _, _, _, _, _, _, _, _, _, _, _, _, rfl⟩
  · rfl
  rintro e V ⟨ch, rfl, bb, hf, q1, ⟨c, q2⟩, q3, q4⟩
  refine ⟨ch, rfl, ?_⟩
  have z4 := H4.out.m.size
  have la := (Array.getElem?_eq_some_iff.1 H4.out.hba).1
  have E3 := E.out
  refine leave9 HH.out hf ((H4.out.m.alloc (by omega) _).alloc (by simp; omega) _) (keep_alloc (World.alloc_heap_new _ _)) z4 (by omega) (by omega) (by omega) (by omega) q1 q2 q3 q4 ?_ ?_
  · intro w x y z u hw
    have r0 : w.cell? ⟨ba, 0, none⟩ = some x := by rw [cell_at _ _ _ _ _ hw]; rfl
    have r1 : w.cell? ⟨ba, 1, none⟩ = some y := by rw [cell_at _ _ _ _ _ hw]; rfl
    have r2 : w.cell? ⟨ba, 2, none⟩ = some z := by rw [cell_at _ _ _ _ _ hw]; rfl
    have r3 : w.cell? ⟨ba, 3, none⟩ = some u := by rw [cell_at _ _ _ _ _ hw]; rfl
    simp [results, Try.results9, go_sem, r0, r1, r2, r3]
  · intro V' f1 f2
    exact ⟨rfl, f1, f2⟩
end Go.Proofs.Qxb6500382a
