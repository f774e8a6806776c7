import Derived.Test.Qxb6500380aHex
namespace Go.Proofs.Qxb6500380a
open Go.RowKit

theorem ret_int {k : IntKind} {a b : Int} (h : a = b) : Ending.returned (.int k a) = .returned (.int k b) := by rw [h]
def cnt (l : List UInt8) : Nat := (l.filter fun c => c == 48).length
theorem cnt_le (l : List UInt8) : cnt l ≤ l.length := List.length_filter_le ..
theorem take_snoc (s : ByteArray) (k : Nat) (h : k < s.size) : s.data.toList.take (k + 1) = s.data.toList.take k ++ [s[k]] := by
  rw [List.take_succ_eq_append_getElem (by simpa using h)]; rfl
theorem cnt_snoc (l : List UInt8) (c : UInt8) : cnt (l ++ [c]) = cnt l + if (c.toNat : Int) = 48 then 1 else 0 := by
  unfold cnt
  have e : (c == 48) = decide ((c.toNat : Int) = 48) := by
    rw [Bool.eq_iff_iff]; simp [← UInt8.toNat_inj]; omega
  rw [List.filter_append]
  by_cases h : (c.toNat : Int) = 48 <;> simp [e, h]

set_option maxHeartbeats 400000 in
theorem zeros_any (s : ByteArray) (w : World) (hs : s.size ≤ 100) (hb : ∀ (k : Nat) (h : k < s.size), s[k] = 48 ∨ s[k] = 49) :
    Calls Try.prog 12 #[.string s] w fun e w' => e = .returned (.int .i64 (cnt s.data.toList)) ∧ w' = w := by
  go_enter Try.func12, Try.ntmps12
  go_wp2
  go_loop [3, 4] (fun n i => ∃ k : Nat, k ≤ s.size ∧ i = .int .i64 k ∧ n = .int .i64 (cnt (s.data.toList.take k))) (fun _ i => s.size - (intOf i).toNat)
  case atStart => exact ⟨0, Nat.zero_le _, rfl, rfl⟩
  case round =>
    obtain ⟨k, hk, rfl, rfl⟩ := hrel
    have hd := cnt_le (s.data.toList.take k)
    have hl : (s.data.toList.take k).length ≤ k := List.length_take_le _ _
    by_cases hlt : k < s.size
    · have hsn := cnt_snoc (s.data.toList.take k) s[k]
      have hts := take_snoc s k hlt
      have HS : Hid (cnt (s.data.toList.take (k + 1)) = cnt (s.data.toList.take k) + if (s[k].toNat : Int) = 48 then 1 else 0) := by rw [hts]; exact hsn
      have hbk : (s[k].toNat : Int) = 48 ∨ (s[k].toNat : Int) = 49 := by
        rcases hb k hlt with h | h <;> rw [h] <;> simp
      clear hsn hts hb
      rcases hbk with hbk | hbk
      · go_wp2
        go_round
        case rel => exact ⟨k + 1, by omega, by go_num, by rw [HS.out, if_pos hbk]; go_num⟩
        case measure => simp [intOf]; omega
      · go_wp2
        go_round
        case rel => exact ⟨k + 1, by omega, by go_num, by rw [HS.out, if_neg (by omega)]; go_num⟩
        case measure => simp [intOf]; omega
    · go_wp2
      go_ret
      exact ⟨ret_int (by rw [List.take_of_length_le (by simp; omega)]), rfl⟩

/-- Where the loop of Part stands at sign i: how many fields are still to be passed, and where the field under way begins. -/
def partK (i : Nat) : Nat := if i ≤ 12 then 2 else if i ≤ 25 then 1 else 0
def partLo (i : Nat) : Nat := if i ≤ 12 then 0 else if i ≤ 25 then 13 else 26

set_option maxHeartbeats 400000 in
theorem part_any (s : ByteArray) (w : World) (hs : s.size = 38) (h12 : ∀ h : 12 < s.size, s[12].toNat = 59) (h25 : ∀ h : 25 < s.size, s[25].toNat = 59)
    (hb : ∀ (k : Nat) (h : k < s.size), k ≠ 12 → k ≠ 25 → s[k].toNat ≠ 59) :
    Calls Try.prog 11 #[.string s, .int .i64 2] w fun e w' => e = .returned (.string (s.extract 26 38)) ∧ w' = w := by
  have hs1 : s.size ≤ 38 := by omega
  have hs2 : 38 ≤ s.size := by omega
  clear hs
  go_enter Try.func11, Try.ntmps11
  go_wp2
  go_loop [1, 5, 6] (fun kk lo i => ∃ k : Nat, k ≤ 38 ∧ i = .int .i64 k ∧ kk = .int .i64 (partK k) ∧ lo = .int .i64 (partLo k)) (fun _ _ i => 39 - (intOf i).toNat)
  case atStart => exact ⟨0, Nat.zero_le _, rfl, rfl, rfl⟩
  case round =>
    obtain ⟨k, hk, rfl, rfl, rfl⟩ := hrel
    by_cases e12 : k = 12
    · subst e12
      have hc : (s[12].toNat : Int) = 59 := by have := h12 (by omega); omega
      clear h12 h25 hb
      go_wp2
      go_round
      case rel => exact ⟨13, by omega, rfl, by simp [partK, wrap64], rfl⟩
      case measure => simp [intOf]
    by_cases e25 : k = 25
    · subst e25
      have hc : (s[25].toNat : Int) = 59 := by have := h25 (by omega); omega
      clear h12 h25 hb
      go_wp2
      go_round
      case rel => exact ⟨26, by omega, rfl, by simp [partK, wrap64], rfl⟩
      case measure => simp [intOf]
    by_cases e38 : k = 38
    · subst e38
      clear h12 h25 hb
      have es : s.size = 38 := by omega
      have hq : ((38 : Int) == (s.size : Int)) = true := by rw [es]; rfl
      clear es
      go_wp2
      go_ret
      exact ⟨rfl, rfl⟩
    · have hlt : k < s.size := by omega
      have hc : ((s[k].toNat : Int) == 59) = false := by have := hb k hlt e12 e25; simp; omega
      have hq : ((k : Int) == (s.size : Int)) = false := by simp; omega
      have HK : Hid (partK (k + 1) = partK k) := by unfold Hid partK; split <;> split <;> first | rfl | omega | (split <;> first | rfl | omega | (split <;> first | rfl | omega))
      have HL : Hid (partLo (k + 1) = partLo k) := by unfold Hid partLo; split <;> split <;> first | rfl | omega | (split <;> first | rfl | omega | (split <;> first | rfl | omega))
      clear h12 h25 hb
      go_wp2
      go_round
      case rel => exact ⟨k + 1, by omega, by go_num, by rw [HK.out], by rw [HL.out]⟩
      case measure => simp [intOf]; omega
end Go.Proofs.Qxb6500380a
