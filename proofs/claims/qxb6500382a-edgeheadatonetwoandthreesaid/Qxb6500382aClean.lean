import Derived.Test.Qxb6500382aOuter
namespace Go.Proofs.Qxb6500382a
open Go.RowKit Go.Shelf

set_option maxHeartbeats 1000000 in
/-- The deferred clean-up of a source that is neither wary nor sour: live goes down, the mark 'c'. -/
theorem clean_any (B d s bl bi bs : Nat) (sr root : Value) (bb : List UInt8) (hlb : bb.length ≤ 900) (made : Nat) (live : Bool) (u : FrameMode) (W : World) (hbi : W.heap[bi]? = some (.cells #[.int .i64 0] 3))
    (hbl : W.heap[bl]? = some (.cells #[.pointer (some ⟨d, 1, none⟩)] 50)) (hbs : W.heap[bs]? = some (.cells #[.pointer (some ⟨s, 0, none⟩)] 38)) (hs : W.heap[s]? = some (srcO root made live)) (hled : Led B d sr bb W) (hBs : B ≤ s) :
    CallsD Try.prog 22 #[.pointer (some ⟨bs, 0, none⟩), .pointer (some ⟨bl, 0, none⟩), .pointer (some ⟨bi, 0, none⟩)] u W fun e u' w' => u' = u ∧ e = .returned (.tuple #[]) ∧
      Led B d sr (bb ++ [99, 48]) w' ∧ w'.heap[s]? = some (srcO root made false) ∧ MvX B [d, s] W w' := by
  unfold srcO at hs
  have dne : ∀ (k : Nat) (c : Array Value) (t : TypeId), W.heap[k]? = some (.cells c t) → t ≠ 37 → k ≠ d := by
    intro k c t hk ht e
    obtain ⟨v, hv, _⟩ := hled
    rw [e, hv] at hk
    injection hk with hk
    injection hk with h1 h2
    exact ht h2.symm
  have ds : s ≠ d := dne _ _ _ hs (by decide)
  have dbs : bs ≠ d := dne _ _ _ hbs (by decide)
  have sbs : bs ≠ s := by intro e; rw [e, hs] at hbs; cases hbs
  have sbi : bi ≠ s := by intro e; rw [e, hs] at hbi; cases hbi
  have sbl : bl ≠ s := by intro e; rw [e, hs] at hbl; cases hbl
  have cs : W.cell? ⟨bs, 0, none⟩ = some (.pointer (some ⟨s, 0, none⟩)) := by rw [cell_at _ _ _ _ _ hbs]; rfl
  have ci : W.cell? ⟨bi, 0, none⟩ = some (.int .i64 0) := by rw [cell_at _ _ _ _ _ hbi]; rfl
  have cl : W.cell? ⟨bl, 0, none⟩ = some (.pointer (some ⟨d, 1, none⟩)) := by rw [cell_at _ _ _ _ _ hbl]; rfl
  have cv : W.cell? ⟨s, 7, none⟩ = some (.bool live) := by rw [cell_at _ _ _ _ _ hs]; rfl
  have fv : W.frozen? ⟨s, 7, none⟩ = false := frozen_at _ _ _ _ _ hs
  have b1 : (W.setCell ⟨s, 7, none⟩ (.bool false)).heap[s]? = some (srcO root made false) := by rw [block_set _ _ _ _ _ _ hs]; rfl
  have b2 : (W.setCell ⟨s, 7, none⟩ (.bool false)).heap[bs]? = some (.cells #[.pointer (some ⟨s, 0, none⟩)] 38) := (Below.heap_setCell _ _ _ _ sbs).trans hbs
  have MK := mark_any B d sr bb 99 (W.setCell ⟨s, 7, none⟩ (.bool false)) (hled.setCell s 7 _ ds _ hs rfl) (by omega)
  have B1 : Hid _ := b1
  have B2 : Hid _ := b2
  have M0 : Hid (MvX B [d, s] W (W.setCell ⟨s, 7, none⟩ (.bool false))) := (MvX.refl B _ W).setCell (by simp) hBs _ _
  clear hbi hbl hbs hs hled b1 b2 dne
  refine callsD_of_wp Try.func22 rfl ?_
  simp only [Try.ntmps22, List.size_toArray, List.length_cons, List.length_nil, Nat.reduceAdd, Nat.reduceSub, Array.replicate_succ, Array.replicate_zero, List.push_toArray, List.append_toArray, List.nil_append, List.cons_append]
  go_wp2_with fail
  refine MK.mono ?_
  clear MK cs ci cl cv fv
  rintro e w2 ⟨rfl, hl2, hm2⟩
  have q1 := hm2.keep s _ ds B1.out rfl
  have q2 := hm2.keep bs _ dbs B2.out rfl
  unfold srcO at q1
  have cs : w2.cell? ⟨bs, 0, none⟩ = some (.pointer (some ⟨s, 0, none⟩)) := by rw [cell_at _ _ _ _ _ q2]; rfl
  have cf : w2.cell? ⟨s, 1, none⟩ = some (.int .i64 1) := by rw [cell_at _ _ _ _ _ q1]; rfl
  have HL : Hid (Led B d sr (bb ++ [99, 48]) w2) := hl2
  have HM : Hid (MvX B [d, s] W w2) := M0.out.trans (hm2.x (by simp))
  have Q1 : Hid _ := q1
  clear q1 q2 hl2 hm2 B1 B2 M0
  go_wp2
  go_end0
  exact ⟨rfl, HL.out, Q1.out, HM.out⟩
end Go.Proofs.Qxb6500382a
