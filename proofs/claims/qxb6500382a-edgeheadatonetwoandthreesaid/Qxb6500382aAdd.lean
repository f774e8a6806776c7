import Derived.Test.Qxb6500382aSmall
import Derived.BigRegion
namespace Go.Proofs.Qxb6500382a
open Go.RowKit Go.Shelf
attribute [local go_sem ↓] Go.wp_at_zero Go.wp_at_succ

/-- The ways through a region meet again: in one frame and one world. -/
def meetQ (A : Act) (Wx : World) : Exit → Act → World → Prop
  | .normal, a, w => a = A ∧ w = Wx
  | _, _, _ => False
theorem wp_meet {P : Program} {c : Code} {Q : Exit → Act → World → Prop} {a : Act} {w : World} {A : Act} {Wx : World} (h1 : c.wp P (meetQ A Wx) a w) (h2 : Q .normal A Wx) : c.wp P Q a w :=
  wp_mono h1 fun e a' w' h => by
    cases e with
    | normal => obtain ⟨rfl, rfl⟩ := h; exact h2
    | ret => exact h.elim
    | panic ch => exact h.elim
    | exit id => exact h.elim
    | goto t => exact h.elim
    | outgrown => exact h.elim

/-- .. in one frame, and in worlds of which Pw holds. -/
def meetP (A : Act) (Pw : World → Prop) : Exit → Act → World → Prop
  | .normal, a, w => a = A ∧ Pw w
  | _, _, _ => False
theorem wp_meetP {P : Program} {c : Code} {Q : Exit → Act → World → Prop} {a : Act} {w : World} {A : Act} (Pw : World → Prop) (h1 : c.wp P (meetP A Pw) a w) (h2 : ∀ V, Pw V → Q .normal A V) : c.wp P Q a w :=
  wp_mono h1 fun e a' w' h => by
    cases e with
    | normal => obtain ⟨rfl, hp⟩ := h; exact h2 _ hp
    | ret => exact h.elim
    | panic ch => exact h.elim
    | exit id => exact h.elim
    | goto t => exact h.elim
    | outgrown => exact h.elim

theorem by3 : IntKind.i64.wrap (({ data := #[3, 1, 2] } : ByteArray)[0].toNat : Int) = 3 := by decide +kernel
theorem by1 : IntKind.i64.wrap (({ data := #[3, 1, 2] } : ByteArray)[1].toNat : Int) = 1 := by decide +kernel
theorem by2 : IntKind.i64.wrap (({ data := #[3, 1, 2] } : ByteArray)[2].toNat : Int) = 2 := by decide +kernel

/-- A world behind W: what lay in W lies as it lay; a: the answer's block, s: the source's. -/
structure AddS (W : World) (root : Value) (V : World) : Prop where
  below : Below W.heap.size W V
  ans : V.heap[W.heap.size]? = some (.cells #[.int .i64 0, .int .i64 0, .int .i64 0, .string { data := #[] }] 26)
  src : V.heap[W.heap.size + 1]? = some (srcO root 0 false)

theorem info38 : (Try.prog.info? 38).map (fun i => (i.zero, i.size, i.bytes)) = some (some (.pointer none), 1, 8) := by kernel_rfl
/-- append of the first source. -/
theorem app_src (s1 : Nat) (V : World) : ∃ cap cur, (Builtin.append_ #[31, 31] 31 #[.slice none 0 0, .slice (some ⟨V.heap.size, 0, none⟩) 1 1]).run Try.prog (V.alloc (.cells #[.pointer (some ⟨s1, 0, none⟩)] 38)) =
      .ok (.slice (some ⟨V.heap.size + 1, 0, none⟩) 1 cap) ((V.alloc (.cells #[.pointer (some ⟨s1, 0, none⟩)] 38)).drew.alloc (.cells cur 38)) ∧ cur[0]? = some (.pointer (some ⟨s1, 0, none⟩)) := by
  obtain ⟨i, hi, hzz⟩ := Option.map_eq_some_iff.1 info38
  simp only [Prod.mk.injEq] at hzz
  obtain ⟨hz, hs, hby⟩ := hzz
  have h := run_append_nil (P := Try.prog) (V.alloc (.cells #[.pointer (some ⟨s1, 0, none⟩)] 38)) 31 31 38 i (.pointer none) Try.underlying31 hi hz ⟨V.heap.size, 0, none⟩ 1 1 [.pointer (some ⟨s1, 0, none⟩)] (by rw [hs]; rfl)
    (by intro j u hu; rw [add_at, cell_at _ _ _ _ _ (heap_new V _)]; simpa using hu) (by omega) (by omega) (by rw [hby]; omega)
  have hz : (V.alloc (.cells #[.pointer (some ⟨s1, 0, none⟩)] 38)).heap.size = V.heap.size + 1 := by simp
  rw [hz] at h
  exact ⟨_, _, h, by rw [Array.getElem?_append_left (by simp)]; rfl⟩

/-- What lies behind Add. -/
structure AddEnd (W : World) (d s b1 b2 b3 row cap : Nat) (cur : Array Value) (V : World) : Prop where
  os : V.os = W.os
  tape : V.tape = W.tape
  output : V.output = W.output
  size : W.heap.size ≤ V.heap.size
  low : ∀ k, k < W.heap.size → k ≠ d → V.heap[k]? = W.heap[k]?
  desk : V.heap[d]? = some (.cells #[.slice (some ⟨row, 0, none⟩) 1 cap, .slice none 0 0, .int .i64 0, .nilFunc, .nilFunc] 37)
  row : V.heap[row]? = some (.cells cur 38)
  one : cur[0]? = some (.pointer (some ⟨s, 0, none⟩))
  src : V.heap[s]? = some (srcO (.pointer (some ⟨b3, 0, none⟩)) 0 false)
  n3 : V.heap[b3]? = some (.cells #[.int .i64 3, .pointer (some ⟨b1, 0, none⟩), .pointer none] 55)
  n1 : V.heap[b1]? = some (.cells #[.int .i64 1, .pointer none, .pointer (some ⟨b2, 0, none⟩)] 55)
  n2 : V.heap[b2]? = some (.cells #[.int .i64 2, .pointer none, .pointer none] 55)
  hi : W.heap.size ≤ s

theorem and11 : bits BinOp.and IntKind.i64 1 1 = 1 := by decide +kernel
theorem and14 : bits BinOp.and IntKind.i64 1 4 = 0 := by decide +kernel

theorem AddS.cell {W V : World} {root : Value} (h : AddS W root V) : V.cell? ⟨W.heap.size + 1, 5, none⟩ = some root ∧ V.frozen? ⟨W.heap.size + 1, 5, none⟩ = false ∧ W.heap.size + 1 < V.heap.size :=
  ⟨by rw [cell_at _ _ _ _ _ h.src]; rfl, frozen_at _ _ _ _ _ h.src, (Array.getElem?_eq_some_iff.1 h.src).1⟩
theorem AddS.put {W V : World} {root : Value} (h : AddS W root V) (root' : Value) : AddS W root' (V.setCell ⟨W.heap.size + 1, 5, none⟩ root') :=
  ⟨h.below.setCell (by simp) _, (Below.heap_setCell _ _ _ _ (by simp)).trans h.ans, by rw [block_set _ _ _ _ _ _ h.src]; rfl⟩
theorem AddS.alloc {W V : World} {root : Value} (h : AddS W root V) (o : Obj) : AddS W root (V.alloc o) :=
  have hz := h.cell.2.2
  ⟨h.below.alloc h.below.size _, (Below.heap_alloc _ _ _ (by omega)).trans h.ans, (Below.heap_alloc _ _ _ hz).trans h.src⟩
theorem AddS.drewN {W V : World} {root : Value} (h : AddS W root V) (n : Nat) : AddS W root (V.drewN n) :=
  ⟨⟨h.below.os, h.below.tape, h.below.output, h.below.size, h.below.block⟩, h.ans, h.src⟩
theorem AddS.other {W V : World} {root : Value} (h : AddS W root V) (b j : Nat) (v : Value) (hb : W.heap.size + 1 < b) : AddS W root (V.setCell ⟨b, j, none⟩ v) :=
  ⟨h.below.setCell (by show W.heap.size ≤ b; omega) _, (Below.heap_setCell _ _ _ _ (by show W.heap.size ≠ b; omega)).trans h.ans, (Below.heap_setCell _ _ _ _ (by show W.heap.size + 1 ≠ b; omega)).trans h.src⟩
theorem addS_start (W : World) : AddS W (.pointer none) ((W.alloc (.cells #[.int .i64 0, .int .i64 0, .int .i64 0, .string { data := #[] }] 26)).alloc
    (.cells #[.int .i64 2, .int .i64 1, .int .i64 2, .string { data := #[3, 1, 2] }, .slice none 0 0, .pointer none, .int .i64 0, .bool false] 43)) := by
  have h2 := heap_new (W.alloc (.cells #[.int .i64 0, .int .i64 0, .int .i64 0, .string { data := #[] }] 26)) (.cells #[.int .i64 2, .int .i64 1, .int .i64 2, .string { data := #[3, 1, 2] }, .slice none 0 0, .pointer none, .int .i64 0, .bool false] 43)
  simp only [World.size_alloc] at h2
  exact ⟨((Below.refl _ _).alloc (Nat.le_refl _) _).alloc (by simp) _, (Below.heap_alloc _ _ _ (by simp)).trans (heap_new _ _), h2⟩

theorem os_set (w : World) (a : Addr) (v : Value) : (w.setCell a v).os = w.os ∧ (w.setCell a v).tape = w.tape ∧ (w.setCell a v).output = w.output := ⟨rfl, rfl, rfl⟩
/-- The stores behind the append: into the desk and into the answer. -/
theorem add_sets (V : World) (d n : Nat) (sl x0 x1 x2 x3 x4 y0 y1 y2 y3 : Value) (hn : d ≠ n) (hd : V.heap[d]? = some (.cells #[x0, x1, x2, x3, x4] 37)) (ha : V.heap[n]? = some (.cells #[y0, y1, y2, y3] 26)) (z0 z1 z2 z3 : Value) (A : World)
    (hA : A = ((((V.setCell ⟨d, 0, none⟩ sl).setCell ⟨n, 0, none⟩ z0).setCell ⟨n, 1, none⟩ z1).setCell ⟨n, 2, none⟩ z2).setCell ⟨n, 3, none⟩ z3) :
    (∀ k, k ≠ d → k ≠ n → A.heap[k]? = V.heap[k]?) ∧ A.heap[d]? = some (.cells #[sl, x1, x2, x3, x4] 37) ∧ A.heap[n]? = some (.cells #[z0, z1, z2, z3] 26) ∧ A.heap.size = V.heap.size ∧ A.os = V.os ∧ A.tape = V.tape ∧ A.output = V.output := by
  subst hA
  refine ⟨fun k hd' hn' => ?_, ?_, ?_, by simp only [World.size_setCell], by simp only [os_set], by simp only [os_set], by simp only [os_set]⟩
  · rw [Below.heap_setCell _ _ _ _ hn', Below.heap_setCell _ _ _ _ hn', Below.heap_setCell _ _ _ _ hn', Below.heap_setCell _ _ _ _ hn', Below.heap_setCell _ _ _ _ hd']
  · rw [Below.heap_setCell _ _ _ _ hn, Below.heap_setCell _ _ _ _ hn, Below.heap_setCell _ _ _ _ hn, Below.heap_setCell _ _ _ _ hn, block_set _ _ _ _ _ _ hd]
    rfl
  · exact four_set _ _ _ _ _ _ _ _ _ _ _ ((Below.heap_setCell _ _ _ _ (Ne.symm hn)).trans ha)

theorem two_new (A : World) (o1 o2 : Obj) (X : World) (hX : X = ((A.alloc o1).alloc o2).drew) : (∀ k, k < A.heap.size → X.heap[k]? = A.heap[k]?) ∧ X.heap[A.heap.size + 1]? = some o2 ∧ X.heap.size = A.heap.size + 2 ∧ X.os = A.os ∧ X.tape = A.tape ∧ X.output = A.output := by
  have hz : (A.alloc o1).heap.size = A.heap.size + 1 := by simp
  have hh : X.heap = ((A.alloc o1).alloc o2).heap := by rw [hX]; rfl
  have h2 := heap_new (A.alloc o1) o2
  rw [hz] at h2
  refine ⟨?_, ?_, ?_, ?_, ?_, ?_⟩
  · intro k hk
    rw [hh, Below.heap_alloc (A.alloc o1) o2 k (by omega), Below.heap_alloc A o1 k hk]
  · rw [hh]; exact h2
  · rw [hh, World.size_alloc, hz]
  · rw [hX]; rfl
  · rw [hX]; rfl
  · rw [hX]; rfl

theorem add_last (W V : World) (d b1 b2 b3 cap : Nat) (cur : Array Value) (hdl : d < W.heap.size) (hd : W.heap[d]? = some (.cells #[.slice none 0 0, .slice none 0 0, .int .i64 0, .nilFunc, .nilFunc] 37))
    (h : W.heap.size + 1 < b3 ∧ W.heap.size + 1 < b1 ∧ W.heap.size + 1 < b2 ∧ AddS W (.pointer (some ⟨b3, 0, none⟩)) V ∧ V.heap[b3]? = some (.cells #[.int .i64 3, .pointer (some ⟨b1, 0, none⟩), .pointer none] 55) ∧
      V.heap[b1]? = some (.cells #[.int .i64 1, .pointer none, .pointer (some ⟨b2, 0, none⟩)] 55) ∧ V.heap[b2]? = some (.cells #[.int .i64 2, .pointer none, .pointer none] 55))
    (hcur : cur[0]? = some (.pointer (some ⟨W.heap.size + 1, 0, none⟩))) (A X : World) (o1 : Obj)
    (hA : A = ((((V.setCell ⟨d, 0, none⟩ (.slice (some ⟨V.heap.size + 1, 0, none⟩) 1 cap)).setCell ⟨W.heap.size, 0, none⟩ (.int .i64 0)).setCell ⟨W.heap.size, 1, none⟩ (.int .i64 0)).setCell ⟨W.heap.size, 2, none⟩ (.int .i64 0)).setCell
      ⟨W.heap.size, 3, none⟩ (.string { data := #[] })) (hX : X = ((A.alloc o1).alloc (.cells cur 38)).drew) :
    AddEnd W d (W.heap.size + 1) b1 b2 b3 (V.heap.size + 1) cap cur X ∧ X.heap[W.heap.size]? = some (.cells #[.int .i64 0, .int .i64 0, .int .i64 0, .string { data := #[] }] 26) := by
  obtain ⟨i3, i1, i2, hS, h3, h1, h2⟩ := h
  have hB := hS.below
  obtain ⟨s1, s2, s3, s4, s5, s6, s7⟩ := add_sets V d W.heap.size _ _ _ _ _ _ _ _ _ _ (by omega) ((hB.block d hdl).trans hd) hS.ans _ _ _ _ A hA
  obtain ⟨t1, t2, t3, t4, t5, t6⟩ := two_new A o1 (.cells cur 38) X hX
  clear hA hX
  have oth : ∀ k, k < V.heap.size → k ≠ d → k ≠ W.heap.size → X.heap[k]? = V.heap[k]? := fun k hk hkd hkn => (t1 k (by omega)).trans (s1 k hkd hkn)
  have hNV : W.heap.size < V.heap.size := (Array.getElem?_eq_some_iff.1 hS.ans).1
  have hs := (Array.getElem?_eq_some_iff.1 hS.src).1
  have g3 := (Array.getElem?_eq_some_iff.1 h3).1
  have g1 := (Array.getElem?_eq_some_iff.1 h1).1
  have g2 := (Array.getElem?_eq_some_iff.1 h2).1
  rw [s4] at t2
  exact ⟨⟨t4.trans (s5.trans hB.os), t5.trans (s6.trans hB.tape), t6.trans (s7.trans hB.output), by omega, fun k hk hkd => (oth k (by omega) hkd (by omega)).trans (hB.block k hk), (t1 d (by omega)).trans s2, t2, hcur,
    (oth _ hs (by omega) (by omega)).trans hS.src, (oth _ g3 (by omega) (by omega)).trans h3, (oth _ g1 (by omega) (by omega)).trans h1, (oth _ g2 (by omega) (by omega)).trans h2, by omega⟩, (t1 _ (by omega)).trans s3⟩

set_option maxRecDepth 100000 in
set_option maxHeartbeats 4000000 in
theorem add_any (d : Nat) (W : World) (hd : W.heap[d]? = some (.cells #[.slice none 0 0, .slice none 0 0, .int .i64 0, .nilFunc, .nilFunc] 37)) :
    Calls Try.prog 8 #[.pointer (some ⟨d, 0, none⟩), .int .i64 2, .int .i64 1, .int .i64 2, .string { data := #[3, 1, 2] }] W fun e w' => ∃ v s b1 b2 b3 row cap cur, e = .returned v ∧ AddEnd W d s b1 b2 b3 row cap cur w' := by
  have hdl : d < W.heap.size := (Array.getElem?_eq_some_iff.1 hd).1
  have c0 : W.cell? ⟨d, 0, none⟩ = some (.slice none 0 0) := by rw [cell_at _ _ _ _ _ hd]; rfl
  have c2 : W.cell? ⟨d, 2, none⟩ = some (.int .i64 0) := by rw [cell_at _ _ _ _ _ hd]; rfl
  have fz : ∀ o, W.frozen? ⟨d, o, none⟩ = false := fun o => frozen_at _ _ _ _ _ hd
  have HD : Hid _ := hd
  clear hd
  have y3 := by3
  have y1 := by1
  have y2 := by2
  have d1 := and11
  have d4 := and14
  go_enter Try.func8, Try.ntmps8
  go_wp2_with (go_at_call 11; refine (busy_no _ _ ?_).mono ?_; (· go_simp); rintro e w' ⟨rfl, rfl⟩)
  have HS : Hid (AddS W (.pointer none) _) := addS_start W
  revert HS
  generalize (W.alloc (.cells #[.int .i64 0, .int .i64 0, .int .i64 0, .string { data := #[] }] 26)).alloc
    (.cells #[.int .i64 2, .int .i64 1, .int .i64 2, .string { data := #[3, 1, 2] }, .slice none 0 0, .pointer none, .int .i64 0, .bool false] 43) = V0
  intro HS
  have E1 : Hid (W.heap.size + 1 = W.heap.size + 1) := rfl
  revert E1
  generalize hs1 : W.heap.size + 1 = s1
  intro _
  have ES : Hid (W.heap.size + 1 = s1) := hs1
  clear hs1
  refine wp_loop_rounds 4 ?_
  rw [rounds_succ]
  go_wp2_with fail
  go_quiet (fail)
  go_wp2_with fail
  have HSa : Hid (AddS W (.pointer none) (V0.drewN nq)) := HS.out.drewN nq
  clear HS
  revert HSa
  generalize V0.drewN nq = V
  intro HS
  clear V0 nq
  obtain ⟨k5, k6, k7⟩ := HS.out.cell
  rw [ES.out] at k5 k6 k7
  apply wp_meetP (fun V => ∃ b3, Hid (W.heap.size + 1 < b3 ∧ AddS W (.pointer (some ⟨b3, 0, none⟩)) V ∧ V.heap[b3]? = some (.cells #[.int .i64 3, .pointer none, .pointer none] 55)))
  case h1 =>
    go_region_with (go_at_call 12; refine (insert_nil _ _).mono ?_; rintro e w' ⟨rfl, rfl⟩)
    all_goals
      refine ⟨rfl, V.heap.size, ?_⟩
      have h := HS.out
      clear HS k5 k6
      rw [← ES.out] at k7 ⊢
      refine ⟨k7, (((h.put _).alloc _).drewN 1), ?_⟩
      have hz : (V.setCell ⟨W.heap.size + 1, 5, none⟩ (.pointer (some ⟨V.heap.size, 0, none⟩))).heap.size = V.heap.size := by simp
      have := heap_new (V.setCell ⟨W.heap.size + 1, 5, none⟩ (.pointer (some ⟨V.heap.size, 0, none⟩))) (.cells #[.int .i64 3, .pointer none, .pointer none] 55)
      rw [hz] at this
      exact this
  rintro V1 ⟨b3, H1⟩
  clear k5 k6 k7 HS
  go_wp2_with fail
  rw [rounds_succ]
  go_wp2_with fail
  go_quiet (fail)
  go_wp2_with fail
  have HSa : Hid (W.heap.size + 1 < b3 ∧ AddS W (.pointer (some ⟨b3, 0, none⟩)) (V1.drewN nq) ∧ (V1.drewN nq).heap[b3]? = some (.cells #[.int .i64 3, .pointer none, .pointer none] 55)) := ⟨H1.out.1, H1.out.2.1.drewN nq, H1.out.2.2⟩
  clear H1
  revert HSa
  generalize V1.drewN nq = Va
  intro HS
  obtain ⟨k5, k6, k7⟩ := HS.out.2.1.cell
  rw [ES.out] at k5 k6 k7
  have hb3 : b3 < Va.heap.size := (Array.getElem?_eq_some_iff.1 HS.out.2.2).1
  have hsb : s1 ≠ b3 := by have := HS.out.1; rw [ES.out] at this; omega
  apply wp_meetP (fun V => ∃ b1, Hid (W.heap.size + 1 < b3 ∧ W.heap.size + 1 < b1 ∧ AddS W (.pointer (some ⟨b3, 0, none⟩)) V ∧ V.heap[b3]? = some (.cells #[.int .i64 3, .pointer (some ⟨b1, 0, none⟩), .pointer none] 55) ∧ V.heap[b1]? = some (.cells #[.int .i64 1, .pointer none, .pointer none] 55)))
  case h1 =>
    go_region_with (go_at_call 12; refine (insert_left b3 Va.drew HS.out.2.2).mono ?_; rintro e w' ⟨rfl, rfl⟩)
    all_goals
      refine ⟨rfl, Va.heap.size, ?_⟩
      obtain ⟨h1, h2, h3⟩ := HS.out
      clear HS k5 k6
      rw [← ES.out] at k7 hsb ⊢
      have hz : ((Va.setCell ⟨b3, 1, none⟩ (.pointer (some ⟨Va.heap.size, 0, none⟩))).setCell ⟨W.heap.size + 1, 5, none⟩ (.pointer (some ⟨b3, 0, none⟩))).heap.size = Va.heap.size := by simp
      have hn := heap_new ((Va.setCell ⟨b3, 1, none⟩ (.pointer (some ⟨Va.heap.size, 0, none⟩))).setCell ⟨W.heap.size + 1, 5, none⟩ (.pointer (some ⟨b3, 0, none⟩))) (.cells #[.int .i64 1, .pointer none, .pointer none] 55)
      rw [hz] at hn
      refine ⟨h1, k7, ((((h2.other b3 1 _ h1).put _).alloc _).drewN 1), ?_, hn⟩
      show (World.alloc _ _).heap[b3]? = _
      rw [Below.heap_alloc _ _ _ (by rw [hz]; exact hb3), Below.heap_setCell _ _ _ _ (Ne.symm hsb), block_set _ _ _ _ _ _ h3]
      rfl
  rintro V2 ⟨b1, H2⟩
  clear k5 k6 k7 HS hb3 hsb
  go_wp2_with fail
  rw [rounds_succ]
  go_wp2_with fail
  go_quiet (fail)
  go_wp2_with fail
  have HSa : Hid (W.heap.size + 1 < b3 ∧ W.heap.size + 1 < b1 ∧ AddS W (.pointer (some ⟨b3, 0, none⟩)) (V2.drewN nq) ∧ (V2.drewN nq).heap[b3]? = some (.cells #[.int .i64 3, .pointer (some ⟨b1, 0, none⟩), .pointer none] 55) ∧ (V2.drewN nq).heap[b1]? = some (.cells #[.int .i64 1, .pointer none, .pointer none] 55)) :=
    ⟨H2.out.1, H2.out.2.1, H2.out.2.2.1.drewN nq, H2.out.2.2.2⟩
  clear H2
  revert HSa
  generalize V2.drewN nq = Vb
  intro HS
  obtain ⟨k5, k6, k7⟩ := HS.out.2.2.1.cell
  rw [ES.out] at k5 k6 k7
  have hb3 : b3 < Vb.heap.size := (Array.getElem?_eq_some_iff.1 HS.out.2.2.2.1).1
  have hb1 : b1 < Vb.heap.size := (Array.getElem?_eq_some_iff.1 HS.out.2.2.2.2).1
  have hsb : s1 ≠ b3 := by have := HS.out.1; rw [ES.out] at this; omega
  have hsc : s1 ≠ b1 := by have := HS.out.2.1; rw [ES.out] at this; omega
  have hbc : b3 ≠ b1 := by intro e; have h := HS.out.2.2.2.1; rw [e, HS.out.2.2.2.2] at h; cases h
  apply wp_meetP (fun V => ∃ b2, Hid (W.heap.size + 1 < b3 ∧ W.heap.size + 1 < b1 ∧ W.heap.size + 1 < b2 ∧ AddS W (.pointer (some ⟨b3, 0, none⟩)) V ∧ V.heap[b3]? = some (.cells #[.int .i64 3, .pointer (some ⟨b1, 0, none⟩), .pointer none] 55) ∧
      V.heap[b1]? = some (.cells #[.int .i64 1, .pointer none, .pointer (some ⟨b2, 0, none⟩)] 55) ∧ V.heap[b2]? = some (.cells #[.int .i64 2, .pointer none, .pointer none] 55)))
  case h1 =>
    go_region_with (go_at_call 12; refine (insert_deep b3 b1 Vb.drew HS.out.2.2.2.1 HS.out.2.2.2.2).mono ?_; rintro e w' ⟨rfl, rfl⟩)
    all_goals
      refine ⟨rfl, Vb.heap.size, ?_⟩
      obtain ⟨h1, h2, h3, h4, h5⟩ := HS.out
      clear HS k5 k6
      rw [← ES.out] at k7 hsb hsc ⊢
      have hz : (((Vb.setCell ⟨b1, 2, none⟩ (.pointer (some ⟨Vb.heap.size, 0, none⟩))).setCell ⟨b3, 1, none⟩ (.pointer (some ⟨b1, 0, none⟩))).setCell ⟨W.heap.size + 1, 5, none⟩ (.pointer (some ⟨b3, 0, none⟩))).heap.size = Vb.heap.size := by simp
      have hn := heap_new (((Vb.setCell ⟨b1, 2, none⟩ (.pointer (some ⟨Vb.heap.size, 0, none⟩))).setCell ⟨b3, 1, none⟩ (.pointer (some ⟨b1, 0, none⟩))).setCell ⟨W.heap.size + 1, 5, none⟩ (.pointer (some ⟨b3, 0, none⟩))) (.cells #[.int .i64 2, .pointer none, .pointer none] 55)
      rw [hz] at hn
      refine ⟨h1, h2, k7, (((((h3.other b1 2 _ h2).other b3 1 _ h1).put _).alloc _).drewN 1), ?_, ?_, hn⟩
      · show (World.alloc _ _).heap[b3]? = _
        rw [Below.heap_alloc _ _ _ (by rw [hz]; exact hb3), Below.heap_setCell _ _ _ _ (Ne.symm hsb), block_set _ _ _ _ _ _ ((Below.heap_setCell _ _ _ _ hbc).trans h4)]
        rfl
      · show (World.alloc _ _).heap[b1]? = _
        rw [Below.heap_alloc _ _ _ (by rw [hz]; exact hb1), Below.heap_setCell _ _ _ _ (Ne.symm hsc), Below.heap_setCell _ _ _ _ (Ne.symm hbc), block_set _ _ _ _ _ _ h5]
        rfl
  rintro V3 ⟨b2, H3⟩
  clear k5 k6 k7 HS hb3 hsb hb1 hsc hbc
  obtain ⟨cap, cur, hr, hcur⟩ := app_src s1 V3
  have hB := H3.out.2.2.2.1.below
  have k0 : V3.cell? ⟨d, 0, none⟩ = some (.slice none 0 0) := (hB.cell (p := ⟨d, 0, none⟩) hdl).trans c0
  have kf : ∀ o, V3.frozen? ⟨d, o, none⟩ = false := fun o => (hB.frozen (p := ⟨d, o, none⟩) hdl).trans (fz o)
  have hdl3 : d < V3.heap.size := Nat.lt_of_lt_of_le hdl hB.size
  have hans := H3.out.2.2.2.1.ans
  have hal3 : W.heap.size < V3.heap.size := (Array.getElem?_eq_some_iff.1 hans).1
  have a0 : V3.cell? ⟨W.heap.size, 0, none⟩ = some (.int .i64 0) := by rw [cell_at _ _ _ _ _ hans]; rfl
  have a1 : V3.cell? ⟨W.heap.size, 1, none⟩ = some (.int .i64 0) := by rw [cell_at _ _ _ _ _ hans]; rfl
  have a2 : V3.cell? ⟨W.heap.size, 2, none⟩ = some (.int .i64 0) := by rw [cell_at _ _ _ _ _ hans]; rfl
  have a3 : V3.cell? ⟨W.heap.size, 3, none⟩ = some (.string { data := #[] }) := by rw [cell_at _ _ _ _ _ hans]; rfl
  have af : ∀ o, V3.frozen? ⟨W.heap.size, o, none⟩ = false := fun o => frozen_at _ _ _ _ _ hans
  clear hB hans c0 c2 fz
  have hcur' : Hid _ := hcur
  clear hcur
  have hdn : d ≠ W.heap.size := by omega
  go_wp2_with fail
  rw [rounds_succ]
  go_wp2_with (at_builtin; refine wpList_append_run rfl _ _ 31 31 rfl rfl rfl hr ?_)
  have hX' := add_last W V3 d b1 b2 b3 cap cur hdl HD.out H3.out (by rw [ES.out]; exact hcur'.out) _ _ (.cells #[.pointer (some ⟨s1, 0, none⟩)] 38) rfl rfl
  rw [ES.out] at hX'
  clear k0 kf a0 a1 a2 a3 af
  revert hX'
  generalize (((((((V3.setCell ⟨d, 0, none⟩ (.slice (some ⟨V3.heap.size + 1, 0, none⟩) 1 cap)).setCell ⟨W.heap.size, 0, none⟩ (.int .i64 0)).setCell ⟨W.heap.size, 1, none⟩ (.int .i64 0)).setCell ⟨W.heap.size, 2, none⟩ (.int .i64 0)).setCell
      ⟨W.heap.size, 3, none⟩ (.string { data := #[] })).alloc (.cells #[.pointer (some ⟨s1, 0, none⟩)] 38)).alloc (.cells cur 38)).drew = X
  rintro ⟨hE, hA⟩
  have q0 := cell_at X W.heap.size 0 _ _ hA
  have q1 := cell_at X W.heap.size 1 _ _ hA
  have q2 := cell_at X W.heap.size 2 _ _ hA
  have q3 := cell_at X W.heap.size 3 _ _ hA
  exact bodyPost_ret (v := .agg #[.int .i64 0, .int .i64 0, .int .i64 0, .string { data := #[] }]) (by simp [results, Try.results8, go_sem, q0, q1, q2, q3]) rfl ⟨_, s1, b1, b2, b3, V3.heap.size + 1, cap, cur, rfl, hE⟩
end Go.Proofs.Qxb6500382a
