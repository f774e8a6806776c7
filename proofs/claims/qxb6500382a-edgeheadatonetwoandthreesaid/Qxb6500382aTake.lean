import Derived.Test.Qxb6500382aBase
namespace Go.Proofs.Qxb6500382a
open Go.RowKit

theorem Mv.of_below {B d : Nat} {W W' : World} (hB : B ≤ W.heap.size) (h : Below W.heap.size W W') : Mv B d W W' :=
  ⟨h.os, h.tape, h.output, h.size, fun k hk => h.block k (by omega), fun k _ _ hk _ => (h.block k (Array.getElem?_eq_some_iff.1 hk).1).trans hk⟩

theorem Led.lt {B d : Nat} {sr : Value} {bs : List UInt8} {W : World} (h : Led B d sr bs W) : d < W.heap.size ∧ B ≤ d := by
  obtain ⟨v, hd, _, hB⟩ := h
  exact ⟨(Array.getElem?_eq_some_iff.1 hd).1, hB⟩
/-- New blocks leave the ledger as it is. -/
theorem Led.below {B d : Nat} {sr : Value} {bs : List UInt8} {W W' : World} (h : Led B d sr bs W) (hb : Below W.heap.size W W') : Led B d sr bs W' := by
  obtain ⟨v, hd, hown, hB⟩ := h
  refine ⟨v, (hb.block d (Array.getElem?_eq_some_iff.1 hd).1).trans hd, ⟨hown.1, ?_⟩, hB⟩
  rcases hown.2 with hn | ⟨g, cap, cur, rfl, hbg, hgg, rest⟩
  · exact .inl hn
  · exact .inr ⟨g, cap, cur, rfl, hbg, (hb.block g (Array.getElem?_eq_some_iff.1 hgg).1).trans hgg, rest⟩
/-- A store into another block that is no row of bytes leaves the ledger as it is. -/
theorem Led.setCell {B d : Nat} {sr : Value} {bs : List UInt8} {W : World} (h : Led B d sr bs W) (b j : Nat) (v : Value) (hb : b ≠ d) (o : Obj) (ho : W.heap[b]? = some o) (hr : isRow o = false) : Led B d sr bs (W.setCell ⟨b, j, none⟩ v) := by
  obtain ⟨u, hd, hown, hB⟩ := h
  refine ⟨u, (Below.heap_setCell _ _ _ _ (by show d ≠ b; omega)).trans hd, ⟨hown.1, ?_⟩, hB⟩
  rcases hown.2 with hn | ⟨g, cap, cur, rfl, hbg, hgg, rest⟩
  · exact .inl hn
  · refine .inr ⟨g, cap, cur, rfl, hbg, ?_, rest⟩
    rw [Below.heap_setCell _ _ _ _ (by
      intro e
      have e' : g = b := e
      rw [e', ho] at hgg
      cases hgg
      cases hr)]
    exact hgg
theorem Led.obj {B d : Nat} {sr : Value} {bs : List UInt8} {W W' : World} (h : Led B d sr bs W) (b : Nat) (o : Obj) (hb : b ≠ d) (ho : W.heap[b]? = some o) (hr : isRow o = false) (hk : ∀ k, k ≠ b → W'.heap[k]? = W.heap[k]?) : Led B d sr bs W' := by
  obtain ⟨u, hd, hown, hB⟩ := h
  refine ⟨u, (hk d (Ne.symm hb)).trans hd, ⟨hown.1, ?_⟩, hB⟩
  rcases hown.2 with hn | ⟨g, cap, cur, rfl, hbg, hgg, rest⟩
  · exact .inl hn
  · refine .inr ⟨g, cap, cur, rfl, hbg, ?_, rest⟩
    rw [hk g (by
      intro e
      rw [e, ho] at hgg
      cases hgg
      cases hr)]
    exact hgg
theorem Led.drewN {B d : Nat} {sr : Value} {bs : List UInt8} {W : World} (h : Led B d sr bs W) (n : Nat) : Led B d sr bs (W.drewN n) := h
theorem Led.drew {B d : Nat} {sr : Value} {bs : List UInt8} {W : World} (h : Led B d sr bs W) : Led B d sr bs W.drew := h

set_option maxHeartbeats 400000 in
theorem take_any (B d : Nat) (sr : Value) (bs : List UInt8) (W : World) (h : Led B d sr bs W) (h0 : 0 < bs.length) :
    Calls Try.prog 19 #[.pointer (some ⟨d, 1, none⟩)] W fun e W' => e = .returned (.string ⟨bs.toArray⟩) ∧ Led B d sr [] W' ∧ Mv B d W W' := by
  obtain ⟨v, hd, hown, hB⟩ := h
  have hc : W.cell? ⟨d, 1, none⟩ = some v := by rw [cell_at _ _ _ _ _ hd]; rfl
  have hf : W.frozen? ⟨d, 1, none⟩ = false := frozen_at _ _ _ _ _ hd
  have hdl : d < W.heap.size := (Array.getElem?_eq_some_iff.1 hd).1
  rcases hown.2 with ⟨_, hn⟩ | ⟨g, cap, cur, rfl, hbg, hgg, hnc, hcm, hcs, htake⟩
  · omega
  have hcv : ∀ wx, wx.heap = W.heap → (convert 32 9 (.slice (some ⟨g, 0, none⟩) bs.length cap)).run Try.prog wx = .ok (.string ⟨bs.toArray⟩) wx := by
    intro wx hwx
    refine run_convert_bytes_back wx 32 9 5 ⟨g, 0, none⟩ cap bs Try.underlying32 Try.underlying5 Try.underlying9 ?_
    intro j hj
    have := hown.cells (g := g) rfl j (.int .u8 (bs[j].toNat : Int)) (by simp [u8s, hj])
    rw [← this]
    simp [World.cell?, hwx]
  have hcv' := hcv W rfl
  have HL : Hid (Led B d sr [] (W.setCell ⟨d, 1, none⟩ (.slice (some ⟨g, 0, none⟩) 0 cap))) := by
    refine ⟨.slice (some ⟨g, 0, none⟩) 0 cap, by rw [block_set _ _ _ _ _ _ hd]; rfl, ⟨rfl, .inr ⟨g, cap, cur, rfl, hbg, ?_, Nat.zero_le _, hcm, hcs, rfl⟩⟩, hB⟩
    rw [Below.heap_setCell _ _ _ _ (by
      intro e
      have e' : g = d := e
      rw [e', hd] at hgg
      cases hgg)]
    exact hgg
  have HM : Hid (Mv B d W (W.setCell ⟨d, 1, none⟩ (.slice (some ⟨g, 0, none⟩) 0 cap))) := (Mv.refl B d W).desk hB _ _
  clear hd hown hgg htake hcs hcv
  unfold maxLen at hcm
  go_enter Try.func19, Try.ntmps19
  go_wp2
  go_ret
  exact ⟨rfl, HL.out, HM.out⟩

set_option maxHeartbeats 400000 in
theorem itoa_zero (W : World) : Calls Try.prog 17 #[.int .i64 0] W fun e W' => e = .returned (.string { data := #[48] }) ∧ Below W.heap.size W W' := by
  go_enter Try.func17, Try.ntmps17
  go_wp2
  go_ret
  exact ⟨rfl, Below.refl _ _⟩

set_option maxHeartbeats 800000 in
theorem itoa_one (W : World) : Calls Try.prog 17 #[.int .i64 1] W fun e W' => e = .returned (.string { data := #[49] }) ∧ Below W.heap.size W W' := by
  have hcv : ∀ wx c, wx.cell? ⟨W.heap.size, 23, none⟩ = some (.int .u8 49) → (convert 32 9 (.slice (some ⟨W.heap.size, 23, none⟩) 1 c)).run Try.prog wx = .ok (.string { data := #[49] }) wx := by
    intro wx c h
    refine run_convert_bytes_back wx 32 9 5 ⟨W.heap.size, 23, none⟩ c [49] Try.underlying32 Try.underlying5 Try.underlying9 ?_
    intro j hj
    have e : j = 0 := by simp at hj; omega
    subst e
    exact h
  go_enter Try.func17, Try.ntmps17
  go_wp2
  refine wp_loop_rounds 2 ?_
  rw [rounds_succ]
  go_wp2
  rw [rounds_succ]
  go_wp2
  go_ret
  exact ⟨rfl, (Below.refl _ _).alloc (Nat.le_refl _) _⟩

set_option maxHeartbeats 800000 in
theorem itoa_two (W : World) : Calls Try.prog 17 #[.int .i64 2] W fun e W' => e = .returned (.string { data := #[50] }) ∧ Below W.heap.size W W' := by
  have hcv : ∀ wx c, wx.cell? ⟨W.heap.size, 23, none⟩ = some (.int .u8 50) → (convert 32 9 (.slice (some ⟨W.heap.size, 23, none⟩) 1 c)).run Try.prog wx = .ok (.string { data := #[50] }) wx := by
    intro wx c h
    refine run_convert_bytes_back wx 32 9 5 ⟨W.heap.size, 23, none⟩ c [50] Try.underlying32 Try.underlying5 Try.underlying9 ?_
    intro j hj
    have e : j = 0 := by simp at hj; omega
    subst e
    exact h
  go_enter Try.func17, Try.ntmps17
  go_wp2
  refine wp_loop_rounds 2 ?_
  rw [rounds_succ]
  go_wp2
  rw [rounds_succ]
  go_wp2
  go_ret
  exact ⟨rfl, (Below.refl _ _).alloc (Nat.le_refl _) _⟩

set_option maxHeartbeats 400000 in
theorem Got_one (W : World) : Calls Try.prog 24 #[.int .i64 1, .int .i64 0] W fun e W' => e = .returned (.string { data := #[61, 49, 46, 48] }) ∧ Below W.heap.size W W' := by
  go_enter Try.func24, Try.ntmps24
  go_wp2_with (first
    | (go_at_call_of 17 (Value.int IntKind.i64 1); refine (itoa_one _).mono ?_; rintro e w1 ⟨rfl, h1⟩)
    | (go_at_call_of 17 (Value.int IntKind.i64 0); refine (itoa_zero _).mono ?_; rintro e w2 ⟨rfl, h2⟩))
  go_ret
  exact ⟨rfl, h1.trans (h2.mono h1.size)⟩

set_option maxHeartbeats 400000 in
theorem Got_two (W : World) : Calls Try.prog 24 #[.int .i64 2, .int .i64 0] W fun e W' => e = .returned (.string { data := #[61, 50, 46, 48] }) ∧ Below W.heap.size W W' := by
  go_enter Try.func24, Try.ntmps24
  go_wp2_with (first
    | (go_at_call_of 17 (Value.int IntKind.i64 2); refine (itoa_two _).mono ?_; rintro e w1 ⟨rfl, h1⟩)
    | (go_at_call_of 17 (Value.int IntKind.i64 0); refine (itoa_zero _).mono ?_; rintro e w2 ⟨rfl, h2⟩))
  go_ret
  exact ⟨rfl, h1.trans (h2.mono h1.size)⟩

end Go.Proofs.Qxb6500382a
