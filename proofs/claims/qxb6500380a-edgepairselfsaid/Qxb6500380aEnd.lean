import Derived.Test.Qxb6500380aPaired
import Derived.Test.Qxb6500380aPart
import Derived.Test.Qxb6500380aFull
namespace Go.Proofs.Qxb6500380a
open Go.RowKit

def xsB : List Nat := [103, 104, 105, 106, 107, 108]
/-- The first two fields of the answer, each with its sign behind it. -/
def headC : ByteArray := { data := #[54, 55, 54, 56, 54, 57, 54, 97, 54, 98, 54, 99, 59, 54, 55, 54, 56, 54, 57, 54, 97, 54, 98, 54, 99, 59] }
theorem headC_eq : textBA xsB ++ { data := #[59] } ++ textBA xsB ++ { data := #[59] } = headC := by decide +kernel
theorem pairBA_eq (bs : List Bool) : pairBA xsB bs = headC ++ ordBA bs := by unfold pairBA; rw [headC_eq]

theorem ordBA_get (bs : List Bool) (k : Nat) (h : k < (ordBA bs).size) : (ordBA bs)[k] = 48 ∨ (ordBA bs)[k] = 49 := by
  have h' : k < bs.length := by rw [ordBA_size] at h; exact h
  have e : (ordBA bs)[k] = if bs[k] then (49 : UInt8) else 48 := by
    show ((bs.map fun b => if b then (49 : UInt8) else 48).toArray)[k]'(by simpa using h') = _
    simp
  rw [e]
  cases bs[k] <;> simp

theorem get_left (k : Nat) (bs : List Bool) (h : k < (headC ++ ordBA bs).size) (hk : k < headC.size) : (headC ++ ordBA bs)[k] = headC[k] := by
  show (headC ++ ordBA bs).data[k]'h = headC.data[k]'hk
  simp only [ByteArray.data_append]
  exact Array.getElem_append_left hk
theorem get_right (k : Nat) (bs : List Bool) (h : k < (headC ++ ordBA bs).size) (hk : 26 ≤ k) : (headC ++ ordBA bs)[k].toNat ≠ 59 := by
  have hs : (headC ++ ordBA bs).size = 26 + (ordBA bs).size := by rw [ByteArray.size_append]; rfl
  have hk2 : k - 26 < (ordBA bs).size := by omega
  have e : (headC ++ ordBA bs)[k] = (ordBA bs)[k - 26] := by
    show (headC ++ ordBA bs).data[k]'h = (ordBA bs).data[k - 26]'hk2
    simp only [ByteArray.data_append]
    rw [Array.getElem_append_right (by exact hk)]
    rfl
  rw [e]
  rcases ordBA_get bs (k - 26) hk2 with h | h <;> rw [h] <;> decide

theorem part_ord (bs : List Bool) (hb : bs.length = 12) (w : World) :
    Calls Try.prog 11 #[.string (headC ++ ordBA bs), .int .i64 2] w fun e w' => e = .returned (.string (ordBA bs)) ∧ w' = w := by
  have ho := ordBA_size bs
  have hs : (headC ++ ordBA bs).size = 38 := by rw [ByteArray.size_append, ho, hb]; rfl
  have h := part_any (headC ++ ordBA bs) w hs (fun h => by rw [get_left 12 bs h (by decide)]; decide) (fun h => by rw [get_left 25 bs h (by decide)]; decide) (fun k h h12 h25 => by
    by_cases hk : k < 26
    · have hk' : k < headC.size := hk
      rw [get_left k bs h hk']
      have all : ∀ (k : Nat) (h : k < headC.size), k ≠ 12 → k ≠ 25 → headC[k].toNat ≠ 59 := by decide +kernel
      exact all k hk' h12 h25
    · exact get_right k bs h (by omega))
  have e : (headC ++ ordBA bs).extract 26 38 = ordBA bs := by
    apply ByteArray.ext
    rw [ByteArray.data_extract, ByteArray.data_append]
    have h1 : headC.data.size = 26 := rfl
    have h2 : (ordBA bs).data.size = 12 := by rw [← hb, ← ho]; rfl
    rw [Array.extract_append, h1, show (38 : Nat) - 26 = (ordBA bs).data.size by rw [h2], show headC.data.extract 26 38 = #[] from rfl, Array.empty_append, Nat.sub_self]
    exact Array.extract_size
  rw [e] at h
  exact h

theorem cnt_ord (bs : List Bool) : cnt (ordBA bs).data.toList = bs.count false := by
  unfold cnt ordBA
  induction bs with
  | nil => rfl
  | cons b bs ih => cases b <;> simp_all

theorem zeros_ord (bs : List Bool) (hb : bs.length = 12) (h0 : bs.count false = 6) (w : World) :
    Calls Try.prog 12 #[.string (ordBA bs)] w fun e w' => e = .returned (.int .i64 6) ∧ w' = w := by
  have h := zeros_any (ordBA bs) w (by rw [ordBA_size]; omega) (ordBA_get bs)
  rw [cnt_ord, h0] at h
  exact h

theorem cellB (w : World) (j : Nat) (hj : j < 6) : (fullW w).cell? ⟨w.heap.size + 3, j, none⟩ = some (.int .i64 (xsB.getD j 0 : Nat)) := by
  have e : (fullW w).heap[w.heap.size + 3]? = some (.cells (rowK strB 6) 3) := by
    unfold fullW
    rw [Below.heap_alloc _ _ _ (by simp)]
    have := heap_new (((w.alloc (.chan 4 #[] false 0 0 false)).alloc (.cells #[.slice (some ⟨w.heap.size + 2, 0, none⟩) 6 6, .slice (some ⟨w.heap.size + 3, 0, none⟩) 6 6, .slice (some ⟨w.heap.size + 4, 0, none⟩) 6 6, .chan (some w.heap.size)] 43)).alloc
      (.cells (rowK strA 6) 3)) (.cells (rowK strB 6) 3)
    simp only [World.size_alloc] at this
    exact this
  rw [cell_at _ _ _ _ _ e]
  match j, hj with
  | 0, _ => rfl
  | 1, _ => rfl
  | 2, _ => rfl
  | 3, _ => rfl
  | 4, _ => rfl
  | 5, _ => rfl

theorem fullW_size (w : World) : (fullW w).heap.size = w.heap.size + 5 := by simp [fullW]
theorem fullW_below (w : World) : Below w.heap.size w (fullW w) := by
  unfold fullW
  exact (((((Below.refl w.heap.size w).alloc (Nat.le_refl _) _).alloc (by simp) _).alloc (by simp; omega) _).alloc (by simp; omega) _).alloc (by simp; omega) _
theorem cellM (w : World) : (fullW w).cell? ⟨w.heap.size + 1, 1, none⟩ = some (.slice (some ⟨w.heap.size + 3, 0, none⟩) 6 6) := by
  have e : (fullW w).heap[w.heap.size + 1]? = some (.cells #[.slice (some ⟨w.heap.size + 2, 0, none⟩) 6 6, .slice (some ⟨w.heap.size + 3, 0, none⟩) 6 6, .slice (some ⟨w.heap.size + 4, 0, none⟩) 6 6, .chan (some w.heap.size)] 43) := by
    unfold fullW
    rw [Below.heap_alloc _ _ _ (by simp), Below.heap_alloc _ _ _ (by simp), Below.heap_alloc _ _ _ (by simp)]
    have := heap_new (w.alloc (.chan 4 #[] false 0 0 false)) (.cells #[.slice (some ⟨w.heap.size + 2, 0, none⟩) 6 6, .slice (some ⟨w.heap.size + 3, 0, none⟩) 6 6, .slice (some ⟨w.heap.size + 4, 0, none⟩) 6 6, .chan (some w.heap.size)] 43)
    simp only [World.size_alloc] at this
    exact this
  rw [cell_at _ _ _ _ _ e]
  rfl

/-- 'paired(x, 1, 1)' over the merger that 'full' made. -/
theorem paired_full (w : World) :
    Calls Try.prog 10 #[.pointer (some ⟨w.heap.size + 1, 0, none⟩), .int .i64 1, .int .i64 1] (fullW w) fun e w' => ∃ bs : List Bool, bs.length = 12 ∧ bs.count false = 6 ∧
      e = .returned (.agg #[.int .i64 0, .int .i64 12, .int .i64 1266, .string (headC ++ ordBA bs)]) ∧ Below w.heap.size w w' := by
  have hz := fullW_size w
  refine (paired_any xsB (by decide) rfl (w.heap.size + 1) (w.heap.size + 3) (fullW w) (cellM w) (by omega) (by omega) (cellB w)).mono ?_
  rintro e w' ⟨bs, h0, h1, rfl, hB⟩
  refine ⟨bs, by rw [count_len, h0, h1], h0, ?_, (fullW_below w).trans (hB.mono (by omega))⟩
  rw [pairBA_eq]
  rfl
end Go.Proofs.Qxb6500380a
