import Derived.Test.Qxb6500382aCore
namespace Go.Proofs.Qxb6500382a
open Go.RowKit Go.Shelf
variable {n B d : Nat} {sr : Value} {bd bi bn ba l1 : Nat} {r1 : Loop} {bl bc bs s b1 b2 b3 : Nat} {W : World}

set_option maxRecDepth 100000 in
set_option maxHeartbeats 4000000 in
/-- THE SOURCE'S FUNCTION: it throws, and cleans up. -/
theorem seq1 (p : Pre n B d sr bd bi bn ba l1 r1 bl bc bs s b1 b2 b3 W) :
    Calls Try.prog 20 #[.func (.yield l1) #[] #[], .pointer (some ⟨bl, 0, none⟩), .pointer (some ⟨bc, 0, none⟩), .pointer (some ⟨bs, 0, none⟩)] W fun e V => ∃ ch, e = .panicked ch ∧ ∃ bb, Fate n ch bb ∧
      Led B d sr (bb ++ [99, 48]) V ∧ (∃ c : Nat, V.heap[ba]? = some (.cells #[.int .i64 0, .int .i64 c, .int .i64 0, .string { data := #[] }] 26)) ∧ (∃ c : Nat, V.heap[s]? = some (srcO (.pointer (some ⟨b3, 0, none⟩)) c false)) ∧ MvX B [d, s, ba, l1] W V := by
  have B4 : B ≤ W.heap.size := by have := p.led.lt; omega
  have HP : Hid _ := p
  have HO : Hid _ := p.out
  have ls : s < W.heap.size := (Array.getElem?_eq_some_iff.1 p.hsrc).1
  have nd : s ≠ d := fun e => p.out.2.2.2.1 (e ▸ by simp)
  have Xd : ∀ k, k ∈ [bl, bc, bs, b1, b2, b3, bd, bi, bn] → k ≠ d := fun k hk e => p.out.1 k hk (e ▸ by simp)
  have Xs : ∀ k, k ∈ [bl, bc, bs, b1, b2, b3, bd, bi, bn] → k ≠ s := fun k hk e => p.out.1 k hk (e ▸ by simp)
  have hmf := mkf
  refine calls_at Try.func20 rfl ?_
  simp only [Try.ntmps20, List.size_toArray, List.length_cons, List.length_nil, Nat.reduceAdd, Nat.reduceSub, Array.replicate_succ, Array.replicate_zero, List.push_toArray, List.append_toArray, List.nil_append, List.cons_append]
  -- the box of yield
  refine wpAt_head 5 ?_
  intro K hK
  have HK : Hid _ := hK
  clear hK p
  gi_wp2_with fail
  refine HK.out _ _ ?_
  clear HK K
  have y1 : (W.alloc (.cells #[.func (.yield l1) #[] #[]] 60)).heap[W.heap.size]? = some (.cells #[.func (.yield l1) #[] #[]] 60) := World.alloc_heap_new _ _
  have m1 : MvX B [d, s] W (W.alloc (.cells #[.func (.yield l1) #[] #[]] 60)) := (MvX.refl B _ W).alloc B4 _
  have led1 : Led B d sr [] (W.alloc (.cells #[.func (.yield l1) #[] #[]] 60)) := HP.out.led.alloc _
  have s1 : (W.alloc (.cells #[.func (.yield l1) #[] #[]] 60)).heap[s]? = some (srcO (.pointer (some ⟨b3, 0, none⟩)) 0 false) := keep_alloc HP.out.hsrc
  revert y1 m1 led1 s1
  generalize W.alloc (.cells #[.func (.yield l1) #[] #[]] 60) = W1
  intro y1 m1 led1 s1
  generalize hyb : W.heap.size = yb at y1 ⊢
  -- the mark 'o'
  have cl : W1.cell? ⟨bl, 0, none⟩ = some (.pointer (some ⟨d, 1, none⟩)) := by rw [cell_at _ _ _ _ _ (m1.keep _ _ (by have a := Xd bl (by simp); have b := Xs bl (by simp); simp [a, b]) HP.out.hbl rfl)]; rfl
  have ci : W1.cell? ⟨bc, 0, none⟩ = some (.int .i64 0) := by rw [cell_at _ _ _ _ _ (m1.keep _ _ (by have a := Xd bc (by simp); have b := Xs bc (by simp); simp [a, b]) HP.out.hbc rfl)]; rfl
  have MK := mark_any B d sr [] 111 W1 led1 (by simp)
  have M1 : Hid _ := m1
  have Y1 : Hid _ := y1
  have S1 : Hid _ := s1
  have HX : Hid _ := Xd
  have HZ : Hid _ := Xs
  have LY : Hid _ := hyb
  clear m1 y1 led1 Xd Xs hyb s1
  refine wpAt_head 5 ?_
  intro K hK
  have HK : Hid _ := hK
  clear hK
  gi_wp2_with fail
  refine ⟨trivial, (callsIn_wide.2 MK).mono ?_⟩
  rintro e W2 ⟨rfl, led2, hm2⟩
  gi_wp2_with fail
  refine HK.out _ _ ?_
  clear HK K MK cl ci
  have M2 : Hid (MvX B [d, s] W W2) := M1.out.trans (hm2.x (by simp))
  have ydd : yb ≠ d := by have a := HP.out.led.lt; have b := LY.out; omega
  have Y2 : Hid _ := hm2.keep _ _ ydd Y1.out rfl
  have s2 : W2.heap[s]? = some (srcO (.pointer (some ⟨b3, 0, none⟩)) 0 false) := hm2.keep _ _ nd S1.out rfl
  have L2 : Hid (Led B d sr [111, 48] W2) := led2
  clear hm2 M1 Y1 S1 led2
  -- live
  have cs : W2.cell? ⟨bs, 0, none⟩ = some (.pointer (some ⟨s, 0, none⟩)) := by rw [cell_at _ _ _ _ _ (M2.out.keep _ _ (by have a := HX.out bs (by simp); have b := HZ.out bs (by simp); simp [a, b]) HP.out.hbs rfl)]; rfl
  have S2 : Hid _ := s2
  unfold srcO at s2
  have cv : W2.cell? ⟨s, 7, none⟩ = some (.bool false) := by rw [cell_at _ _ _ _ _ s2]; rfl
  have fv : W2.frozen? ⟨s, 7, none⟩ = false := frozen_at _ _ _ _ _ s2
  have s3 : (W2.setCell ⟨s, 7, none⟩ (.bool true)).heap[s]? = some (srcO (.pointer (some ⟨b3, 0, none⟩)) 0 true) := by rw [block_set _ _ _ _ _ _ s2]; rfl
  have S3 : Hid _ := s3
  have M3 : Hid _ := M2.out.setCell (b := s) (by simp) HP.out.Bs 7 (.bool true)
  have L3 : Hid (Led B d sr [111, 48] (W2.setCell ⟨s, 7, none⟩ (.bool true))) := Led.setCell L2.out s 7 (.bool true) nd _ S2.out rfl
  have ysd : yb ≠ s := by have b := LY.out; omega
  have Y3 : Hid ((W2.setCell ⟨s, 7, none⟩ (.bool true)).heap[yb]? = some (.cells #[.func (.yield l1) #[] #[]] 60)) := (Below.heap_setCell _ _ _ _ ysd).trans Y2.out
  have lY := (Array.getElem?_eq_some_iff.1 Y3.out).1
  clear S2 s2 s3
  refine wpAt_head 5 ?_
  intro K hK
  have HK : Hid _ := hK
  clear hK
  gi_wp2_with fail
  refine HK.out _ _ ?_
  clear HK K cs cv fv M2 L2 Y2
  revert S3 M3 L3 Y3 lY
  generalize W2.setCell ⟨s, 7, none⟩ (.bool true) = W3
  intro S3 M3 L3 Y3 lY
  -- the deferred clean-up
  refine wpAt_head 5 ?_
  intro K hK
  have HK : Hid _ := hK
  clear hK
  gi_wp2_with fail
  refine HK.out _ _ ?_
  clear HK K
  -- j
  have n4 : (W3.alloc (.cells #[.int .i64 0] 3)).heap[W3.heap.size]? = some (.cells #[.int .i64 0] 3) := World.alloc_heap_new _ _
  have sz3 : W.heap.size ≤ W3.heap.size := M3.out.size
  have S4 : Hid ((W3.alloc (.cells #[.int .i64 0] 3)).heap[s]? = some (srcO (.pointer (some ⟨b3, 0, none⟩)) 0 true)) := keep_alloc S3.out
  have Y4 : Hid ((W3.alloc (.cells #[.int .i64 0] 3)).heap[yb]? = some (.cells #[.func (.yield l1) #[] #[]] 60)) := keep_alloc Y3.out
  have L4 : Hid (Led B d sr [111, 48] (W3.alloc (.cells #[.int .i64 0] 3))) := Led.alloc L3.out _
  have M4 : Hid (MvX B [d, s] W (W3.alloc (.cells #[.int .i64 0] 3))) := M3.out.alloc (by omega) _
  have J4 : Hid _ := n4
  have SZ : Hid _ := sz3
  clear n4 M3 S3 Y3 L3 sz3
  refine wpAt_head 5 ?_
  intro K hK
  have HK : Hid _ := hK
  clear hK
  gi_wp2_with fail
  refine HK.out _ _ ?_
  clear HK K
  generalize hbj : W3.heap.size = bj at S4 Y4 L4 M4 J4 SZ ⊢
  revert S4 Y4 L4 M4 J4
  generalize W3.alloc (.cells #[.int .i64 0] 3) = W4
  intro S4 Y4 L4 M4 J4
  -- the bare source
  have cs : W4.cell? ⟨bs, 0, none⟩ = some (.pointer (some ⟨s, 0, none⟩)) := by rw [cell_at _ _ _ _ _ (M4.out.keep _ _ (by have a := HX.out bs (by simp); have b := HZ.out bs (by simp); simp [a, b]) HP.out.hbs rfl)]; rfl
  have s4 := S4.out
  unfold srcO at s4
  have c0 : W4.cell? ⟨s, 0, none⟩ = some (.int .i64 2) := by rw [cell_at _ _ _ _ _ s4]; rfl
  have c5 : W4.cell? ⟨s, 5, none⟩ = some (.pointer (some ⟨b3, 0, none⟩)) := by rw [cell_at _ _ _ _ _ s4]; rfl
  have BA := bare_any s _ W4 c0 c5
  clear s4 c0 c5
  refine wpAt_seq ?_
  refine wpAt_head 5 ?_
  intro K hK
  have HK : Hid _ := hK
  clear hK
  gi_wp2_with fail
  refine ⟨trivial, (callsIn_wide.2 BA).mono ?_⟩
  rintro e W5 ⟨rfl, rfl⟩
  gi_wp2_with fail
  refine HK.out _ _ ?_
  clear HK K BA cs
  have R5 : Hid _ := World.alloc_heap_new W4 (.cells #[.pointer (some ⟨b3, 0, none⟩)] 41)
  have S5 : Hid _ := keep_alloc (o' := .cells #[.pointer (some ⟨b3, 0, none⟩)] 41) S4.out
  have Y5 : Hid _ := keep_alloc (o' := .cells #[.pointer (some ⟨b3, 0, none⟩)] 41) Y4.out
  have J5 : Hid _ := keep_alloc (o' := .cells #[.pointer (some ⟨b3, 0, none⟩)] 41) J4.out
  have L5 : Hid (Led B d sr [111, 48] (W4.alloc (.cells #[.pointer (some ⟨b3, 0, none⟩)] 41))) := Led.alloc L4.out _
  have M5 : Hid (MvX B [d, s] W (W4.alloc (.cells #[.pointer (some ⟨b3, 0, none⟩)] 41))) := M4.out.alloc (by have := M4.out.size; omega) _
  clear S4 Y4 J4 L4 M4
  generalize hrb : W4.heap.size = rb at R5 ⊢
  revert R5 S5 Y5 J5 L5 M5
  generalize W4.alloc (.cells #[.pointer (some ⟨b3, 0, none⟩)] 41) = W5
  intro S5 Y5 J5 L5 M5 R5
  refine wpAt_range (d := { target := .fn (.func 28) #[.pointer (some ⟨rb, 0, none⟩)], args := #[.func (.yield (W5.heap.size + 1)) #[] #[]] }) (fc := 28) (args := #[.func (.yield (W5.heap.size + 1)) #[] #[], .pointer (some ⟨rb, 0, none⟩)]) (run_enterLoop_outer _ _ _ _ _) (res_range rfl) rfl ?_
  refine Calls.mono (core HP.out W5 yb bj rb _ M5.out L5.out S5.out Y5.out J5.out R5.out (by have := LY.out; omega) SZ.out ?_ ?_) ?_
  · exact ⟨rfl, rfl, rfl, _, _, _, _, _, _, _, _, _, _, _, _, _, _, _, _, _, _, _, _, _, _, _, _, _, _, _, _, _, _, _, _, _, _, _, _, _, _, _, _, _, _, _, _, _, _, _, _, _, _, _, _, _, rfl⟩
  · rfl
  rintro e V ⟨ch, rfl, bb, hf, ht⟩
  refine ⟨ch, rfl, ?_⟩
  have B5 : B ≤ W5.heap.size := by have := M5.out.size; omega
  refine leave20 HO.out.2.1 hf B5 M5.out.size HP.out.Bs ht ?_
  intro V' q1 q2 q3 q4
  exact ⟨ch, rfl, bb, hf, q1, q2, q3, q4⟩
end Go.Proofs.Qxb6500382a
