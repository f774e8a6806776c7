import Derived.Test.Qxb6500380aHex
namespace Go.Proofs.Qxb6500380a
open Go.RowKit

theorem mk4 (w : World) : (Instr.makeChan 39 (.int .i64 4)).run Try.prog w = .ok (.chan (some w.heap.size)) (w.alloc (.chan 4 #[] false 0 0 false)) := by kernel_rfl
theorem mk6 (w : World) : (Instr.makeChan 39 (.int .i64 6)).run Try.prog w = .ok (.chan (some w.heap.size)) (w.alloc (.chan 6 #[] false 0 0 false)) := by kernel_rfl

set_option maxHeartbeats 400000 in
theorem new_any (w : World) :
    Calls Try.prog 13 #[] w fun e w' => e = .returned (.pointer (some ⟨w.heap.size + 1, 0, none⟩)) ∧
      w' = (w.alloc (.chan 4 #[] false 0 0 false)).alloc (.cells #[.slice none 0 0, .slice none 0 0, .slice none 0 0, .chan (some w.heap.size)] 43) := by
  have hmk := mk4
  go_enter Try.func13, Try.ntmps13
  go_wp2
  go_ret
  exact ⟨rfl, rfl⟩

theorem mks (w : World) : (Instr.makeSlice 40 (.int .i64 6) (.int .i64 6)).run Try.prog w = .ok (.slice (some ⟨w.heap.size, 0, none⟩) 6 6) (w.alloc (.cells #[.int .i64 0, .int .i64 0, .int .i64 0, .int .i64 0, .int .i64 0, .int .i64 0] 3)) := by kernel_rfl

/-- The items of a string, of which the first k have been laid. -/
def rowK (s : ByteArray) (k : Nat) : Array Value := ((List.range 6).map fun j => Value.int .i64 (if j < k then (s.data.getD j 0).toNat else 0 : Nat)).toArray
theorem rowK_size (s : ByteArray) (k : Nat) : (rowK s k).size = 6 := by simp [rowK]
theorem rowK_zero (s : ByteArray) : rowK s 0 = #[.int .i64 0, .int .i64 0, .int .i64 0, .int .i64 0, .int .i64 0, .int .i64 0] := rfl
theorem rowK_set (s : ByteArray) (k : Nat) (h : k < s.size) : (rowK s k).setIfInBounds k (.int .i64 (s[k].toNat : Nat)) = rowK s (k + 1) := by
  apply Array.ext
  · simp [rowK]
  · intro j h1 h2
    rw [Array.getElem_setIfInBounds]
    · by_cases e : k = j
      · subst e
        have hk : k < s.data.size := h
        simp only [if_true, rowK, List.getElem_toArray, List.getElem_map, List.getElem_range, Nat.lt_succ_self, Array.getD_eq_getD_getElem?, Array.getElem?_eq_getElem hk, Option.getD_some]
        rfl
      · simp only [e, if_false, rowK, List.getElem_toArray, List.getElem_map, List.getElem_range]
        congr 2
        by_cases hj : j < k
        · simp [hj, Nat.lt_succ_of_lt hj]
        · have : ¬ j < k + 1 := by omega
          simp [hj, this]
    · simpa using h1
theorem wrap_byte (c : UInt8) : wrap64 (c.toNat : Int) = c.toNat := by
  have := c.toNat_lt
  unfold wrap64
  omega
theorem rowK_get (s : ByteArray) (k j : Nat) (h : j < 6) : ∃ v, (rowK s k)[j]? = some v := ⟨_, Array.getElem?_eq_getElem (by rw [rowK_size]; exact h)⟩

set_option maxHeartbeats 400000 in
theorem load_any (s : ByteArray) (hs : s.size = 6) (m i : Nat) (hi : i < 3) (w : World) (hml : m < w.heap.size) (hm : ∃ v, w.cell? ⟨m, i, none⟩ = some v) (hf : w.frozen? ⟨m, i, none⟩ = false) :
    Calls Try.prog 17 #[.pointer (some ⟨m, 0, none⟩), .int .i64 i, .string s] w fun e w' => e = .returned (.int .i64 0) ∧
      w' = (w.setCell ⟨m, i, none⟩ (.slice (some ⟨w.heap.size, 0, none⟩) 6 6)).alloc (.cells (rowK s 6) 3) := by
  have hmk := mks
  have hz : (s.size : Int) = 6 := by omega
  go_enter Try.func17, Try.ntmps17
  go_wp2
  go_loopw [8] (fun q wr => ∃ k : Nat, k ≤ 6 ∧ q = .int .i64 k ∧ wr = w.alloc (.cells (rowK s k) 3)) (fun q _ => 6 - (intOf q).toNat)
  case atStart => exact ⟨0, by omega, rfl, rfl⟩
  case round =>
    obtain ⟨k, hk, rfl, rfl⟩ := hrel
    by_cases hlt : k < 6
    · have HS : Hid ((rowK s k).setIfInBounds k (.int .i64 (s[k].toNat : Nat)) = rowK s (k + 1)) := rowK_set s k (by omega)
      obtain ⟨v, hv⟩ := rowK_get s k k hlt
      have hlt2 : k < s.size := by omega
      go_wp2
      go_roundw
      case rel => exact ⟨k + 1, by omega, by go_num, by rw [← HS.out, wrap_byte]⟩
      case measure => simp [intOf]; omega
    · have e : k = 6 := by omega
      subst e
      obtain ⟨v, hv⟩ := hm
      go_wp2
      go_ret
      exact ⟨rfl, rfl⟩
end Go.Proofs.Qxb6500380a
