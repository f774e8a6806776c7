import Derived.Test.Qxb6500380aHex
namespace Go.Proofs.Qxb6500380a
open Go.RowKit

/-- A list of bytes as text. -/
def textBA (xs : List Nat) : ByteArray := xs.foldl (fun t v => t ++ hexBA v) { data := #[] }
theorem textBA_snoc (xs : List Nat) (k : Nat) (h : k < xs.length) : textBA (xs.take (k + 1)) = textBA (xs.take k) ++ hexBA (xs.getD k 0) := by
  unfold textBA
  rw [List.take_succ_eq_append_getElem h, List.foldl_append]
  simp [List.getD_eq_getElem?_getD, h]
theorem hexBA_size (v : Nat) (h : v < 256) : (hexBA v).size = 2 := by
  have e : ∀ v : Nat, v < 256 → (hexBA v).size = 2 := by decide +kernel
  exact e v h
theorem textBA_size (xs : List Nat) (hx : ∀ x ∈ xs, x < 256) : (textBA xs).size = 2 * xs.length := by
  suffices H : ∀ (xs : List Nat) (t : ByteArray), (∀ x ∈ xs, x < 256) → (xs.foldl (fun t v => t ++ hexBA v) t).size = t.size + 2 * xs.length by
    have := H xs { data := #[] } hx
    rw [show ({ data := #[] } : ByteArray).size = 0 from rfl, Nat.zero_add] at this
    exact this
  intro xs
  induction xs with
  | nil => intro t _; simp
  | cons x xs ih =>
    intro t hx
    rw [List.foldl_cons, ih _ (fun y hy => hx y (List.mem_cons_of_mem _ hy))]
    have := hexBA_size x (hx x (List.mem_cons_self ..))
    simp [this]
    omega

set_option maxHeartbeats 400000 in
theorem text_any (xs : List Nat) (hx : ∀ x ∈ xs, x < 256) (hn : xs.length ≤ 6) (b cap : Nat) (w : World)
    (hc : ∀ j, j < xs.length → w.cell? ⟨b, j, none⟩ = some (.int .i64 (xs.getD j 0 : Nat))) :
    Calls Try.prog 26 #[.slice (some ⟨b, 0, none⟩) xs.length cap] w fun e w' => e = .returned (.string (textBA xs)) ∧ ∃ n, w' = w.drewN n := by
  go_enter Try.func26, Try.ntmps26
  go_wp2
  go_loopw [3, 9] (fun t i wr => ∃ k m : Nat, k ≤ xs.length ∧ i = .int .i64 k ∧ t = .string (textBA (xs.take k)) ∧ wr = w.drewN m) (fun _ i _ => xs.length - (intOf i).toNat)
  case atStart => exact ⟨0, 0, Nat.zero_le _, rfl, rfl, rfl⟩
  case round =>
    obtain ⟨k, m, hk, rfl, rfl, rfl⟩ := hrel
    by_cases hlt : k < xs.length
    · obtain ⟨v, hv, hck, HS⟩ : ∃ v : Nat, v < 256 ∧ (w.drewN m).cell? ⟨b, k, none⟩ = some (.int .i64 v) ∧ Hid (textBA (xs.take (k + 1)) = textBA (xs.take k) ++ hexBA v) := by
        refine ⟨xs.getD k 0, ?_, hc k hlt, textBA_snoc xs k hlt⟩
        rw [List.getD_eq_getElem?_getD, List.getElem?_eq_getElem hlt]; exact hx _ (List.getElem_mem hlt)
      have hs1 : (textBA (xs.take k)).size ≤ 12 := by
        rw [textBA_size _ (fun x h => hx x (List.mem_of_mem_take h)), List.length_take]; omega
      have hs2 : (hexBA v).size ≤ 2 := Nat.le_of_eq (hexBA_size v hv)
      clear hc hx
      go_wp2_with (go_at_call 27; refine (hex2_any _ hv _).mono ?_; rintro e w' ⟨rfl, n, rfl⟩)
      go_roundw
      case rel => exact ⟨k + 1, m + n, by omega, by go_num, by rw [HS.out], rfl⟩
      case measure => simp [intOf]; omega
    · go_wp2
      go_ret
      have e : k = xs.length := by omega
      subst e
      exact ⟨by simp, m, rfl⟩
end Go.Proofs.Qxb6500380a
