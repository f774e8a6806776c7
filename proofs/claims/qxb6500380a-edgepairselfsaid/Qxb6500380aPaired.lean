import Derived.Test.Qxb6500380aPair
namespace Go.Proofs.Qxb6500380a
open Go.RowKit

theorem bcell {W w1 : World} (hb : Below W.heap.size W w1) : (∀ b o, b < W.heap.size → w1.cell? ⟨b, o, none⟩ = W.cell? ⟨b, o, none⟩) ∧ (∀ b o, b < W.heap.size → w1.frozen? ⟨b, o, none⟩ = W.frozen? ⟨b, o, none⟩) :=
  ⟨fun b o h => hb.cell (p := ⟨b, o, none⟩) h, fun b o h => hb.frozen (p := ⟨b, o, none⟩) h⟩

theorem four_set (W : World) (n : Nat) (x y z u a b c d : Value) (t : TypeId) (h : W.heap[n]? = some (.cells #[x, y, z, u] t)) :
    ((((W.setCell ⟨n, 0, none⟩ a).setCell ⟨n, 1, none⟩ b).setCell ⟨n, 2, none⟩ c).setCell ⟨n, 3, none⟩ d).heap[n]? = some (.cells #[a, b, c, d] t) := by
  rw [block_set _ _ _ _ _ _ (block_set _ _ _ _ _ _ (block_set _ _ _ _ _ _ (block_set _ _ _ _ _ _ h)))]
  rfl

set_option maxHeartbeats 400000 in
theorem paired_any (xs : List Nat) (hx : ∀ x ∈ xs, x < 256) (hn : xs.length = 6) (m b : Nat) (w : World) (hm : w.cell? ⟨m, 1, none⟩ = some (.slice (some ⟨b, 0, none⟩) 6 6)) (hml : m < w.heap.size) (hb : b < w.heap.size)
    (hc : ∀ j, j < 6 → w.cell? ⟨b, j, none⟩ = some (.int .i64 (xs.getD j 0 : Nat))) :
    Calls Try.prog 10 #[.pointer (some ⟨m, 0, none⟩), .int .i64 1, .int .i64 1] w fun e w' => ∃ bs : List Bool, bs.count false = 6 ∧ bs.count true = 6 ∧
      e = .returned (.agg #[.int .i64 0, .int .i64 12, .int .i64 (psum xs 6 + psum xs 6 : Nat), .string (pairBA xs bs)]) ∧ Below w.heap.size w w' := by
  have key : ∀ W, Below w.heap.size w W → Calls Try.prog 20 #[.pointer (some ⟨m, 0, none⟩), .int .i64 1, .int .i64 1] W fun e w' => ∃ bs : List Bool, bs.count false = 6 ∧ bs.count true = 6 ∧
      e = .returned (.tuple #[.int .i64 12, .int .i64 (psum xs 6 + psum xs 6 : Nat), .string (pairBA xs bs), .int .i64 0]) ∧ Below W.heap.size W w' := by
    intro W hW
    have hs := hW.size
    exact pair_any xs hx hn m b W ((hW.cell (p := ⟨m, 1, none⟩) hml).trans hm) (by omega) (by omega) (fun j hj => (hW.cell (p := ⟨b, j, none⟩) hb).trans (hc j hj))
  have KEY : Hid _ := key
  clear key hm hc hx hn
  obtain ⟨M, eM⟩ : ∃ M, psum xs 6 + psum xs 6 = M := ⟨_, rfl⟩
  rw [eM] at KEY ⊢
  clear eM
  go_enter Try.func10, Try.ntmps10
  go_wp2_with (go_at_call 20; refine (KEY.out _ ?_).mono ?_)
  · exact ((Below.refl _ _).alloc (Nat.le_refl _) _).alloc (by simp) _
  · rintro e w' ⟨bs, h0, h1, rfl, hB⟩
    obtain ⟨hcl, hfz⟩ := bcell hB
    have hz : w.heap.size + 1 < w'.heap.size := by have := hB.size; simp at this; omega
    have HB : Hid (Below _ _ w') := hB
    have H0 : Hid (bs.count false = 6) := h0
    have H1 : Hid (bs.count true = 6) := h1
    clear hB h0 h1
    go_wp2
    have hN : w'.heap[w.heap.size]? = some (.cells #[.int .i64 0, .int .i64 0, .int .i64 0, .string { data := #[] }] 26) := by
      rw [HB.out.block _ (by simp; omega), Below.heap_alloc _ _ _ (by simp)]; exact heap_new _ _
    have h4 := four_set ((((w'.setCell ⟨w.heap.size + 1, 1, none⟩ (.int .i64 12)).setCell ⟨w.heap.size + 1, 2, none⟩ (.int .i64 M)).setCell ⟨w.heap.size + 1, 3, none⟩ (.string (pairBA xs bs))).setCell ⟨w.heap.size + 1, 0, none⟩ (.int .i64 0))
      w.heap.size _ _ _ _ (.int .i64 0) (.int .i64 12) (.int .i64 M) (.string (pairBA xs bs)) 26
      (by rw [Below.heap_setCell _ _ _ _ (by simp), Below.heap_setCell _ _ _ _ (by simp), Below.heap_setCell _ _ _ _ (by simp), Below.heap_setCell _ _ _ _ (by simp)]; exact hN)
    have c0 := cell_at _ _ 0 _ _ h4
    have c1 := cell_at _ _ 1 _ _ h4
    have c2 := cell_at _ _ 2 _ _ h4
    have c3 := cell_at _ _ 3 _ _ h4
    have B0 : Below w.heap.size w w' := (((Below.refl _ _).alloc (Nat.le_refl _) _).alloc (by simp) _).trans (HB.out.mono (by simp; omega))
    have B1 : Below w.heap.size w ((((((((w'.setCell ⟨w.heap.size + 1, 1, none⟩ (.int .i64 12)).setCell ⟨w.heap.size + 1, 2, none⟩ (.int .i64 M)).setCell ⟨w.heap.size + 1, 3, none⟩ (.string (pairBA xs bs))).setCell ⟨w.heap.size + 1, 0, none⟩ (.int .i64 0)).setCell ⟨w.heap.size, 0, none⟩ (.int .i64 0)).setCell ⟨w.heap.size, 1, none⟩ (.int .i64 12)).setCell ⟨w.heap.size, 2, none⟩ (.int .i64 M)).setCell ⟨w.heap.size, 3, none⟩ (.string (pairBA xs bs))) := by
      repeat (refine Below.setCell ?_ (by simp) _)
      exact B0
    clear hcl hfz hz HB hN h4 B0
    revert c0 c1 c2 c3 B1
    generalize ((((((((w'.setCell ⟨w.heap.size + 1, 1, none⟩ (.int .i64 12)).setCell ⟨w.heap.size + 1, 2, none⟩ (.int .i64 M)).setCell ⟨w.heap.size + 1, 3, none⟩ (.string (pairBA xs bs))).setCell ⟨w.heap.size + 1, 0, none⟩ (.int .i64 0)).setCell ⟨w.heap.size, 0, none⟩ (.int .i64 0)).setCell ⟨w.heap.size, 1, none⟩ (.int .i64 12)).setCell ⟨w.heap.size, 2, none⟩ (.int .i64 M)).setCell ⟨w.heap.size, 3, none⟩ (.string (pairBA xs bs))) = W8
    intro c0 c1 c2 c3 B1
    exact bodyPost_ret (v := .agg #[.int .i64 0, .int .i64 12, .int .i64 (M : Nat), .string (pairBA xs bs)]) (by simp [results, Try.results10, go_sem, c0, c1, c2, c3]) rfl ⟨bs, H0.out, H1.out, rfl, B1⟩
end Go.Proofs.Qxb6500380a
