import Derived.Test.Qxb6500380aLoad
import Derived.Deep.RegionWith
namespace Go.Proofs.Qxb6500380a
open Go.RowKit

def strA : ByteArray := { data := #[97, 98, 99, 100, 101, 102] }
def strB : ByteArray := { data := #[103, 104, 105, 106, 107, 108] }
def strC : ByteArray := { data := #[109, 110, 111, 112, 113, 114] }
/-- The world behind 'full'. -/
def fullW (w : World) : World :=
  ((((w.alloc (.chan 4 #[] false 0 0 false)).alloc (.cells #[.slice (some ⟨w.heap.size + 2, 0, none⟩) 6 6, .slice (some ⟨w.heap.size + 3, 0, none⟩) 6 6, .slice (some ⟨w.heap.size + 4, 0, none⟩) 6 6, .chan (some w.heap.size)] 43)).alloc
    (.cells (rowK strA 6) 3)).alloc (.cells (rowK strB 6) 3)).alloc (.cells (rowK strC 6) 3)

theorem load_0 (m : Nat) (w : World) (hml : m < w.heap.size) (hm : ∃ v, w.cell? ⟨m, 0, none⟩ = some v) (hf : w.frozen? ⟨m, 0, none⟩ = false) :
    Calls Try.prog 17 #[.pointer (some ⟨m, 0, none⟩), .int .i64 0, .string { data := #[97, 98, 99, 100, 101, 102] }] w fun e w' => e = .returned (.int .i64 0) ∧
      w' = (w.setCell ⟨m, 0, none⟩ (.slice (some ⟨w.heap.size, 0, none⟩) 6 6)).alloc (.cells (rowK strA 6) 3) := load_any strA rfl m 0 (by omega) w hml hm hf
theorem load_1 (m : Nat) (w : World) (hml : m < w.heap.size) (hm : ∃ v, w.cell? ⟨m, 1, none⟩ = some v) (hf : w.frozen? ⟨m, 1, none⟩ = false) :
    Calls Try.prog 17 #[.pointer (some ⟨m, 0, none⟩), .int .i64 1, .string { data := #[103, 104, 105, 106, 107, 108] }] w fun e w' => e = .returned (.int .i64 0) ∧
      w' = (w.setCell ⟨m, 1, none⟩ (.slice (some ⟨w.heap.size, 0, none⟩) 6 6)).alloc (.cells (rowK strB 6) 3) := load_any strB rfl m 1 (by omega) w hml hm hf
theorem load_2 (m : Nat) (w : World) (hml : m < w.heap.size) (hm : ∃ v, w.cell? ⟨m, 2, none⟩ = some v) (hf : w.frozen? ⟨m, 2, none⟩ = false) :
    Calls Try.prog 17 #[.pointer (some ⟨m, 0, none⟩), .int .i64 2, .string { data := #[109, 110, 111, 112, 113, 114] }] w fun e w' => e = .returned (.int .i64 0) ∧
      w' = (w.setCell ⟨m, 2, none⟩ (.slice (some ⟨w.heap.size, 0, none⟩) 6 6)).alloc (.cells (rowK strC 6) 3) := load_any strC rfl m 2 (by omega) w hml hm hf

set_option maxHeartbeats 400000 in
theorem full_any (w : World) :
    Calls Try.prog 9 #[] w fun e w' => e = .returned (.pointer (some ⟨w.heap.size + 1, 0, none⟩)) ∧ w' = fullW w := by
  go_enter Try.func9, Try.ntmps9
  go_wp2_with (first
    | (go_at_call 13; refine (new_any _).mono ?_; rintro e w' ⟨rfl, rfl⟩)
    | (go_at_call_of 17 (Value.int IntKind.i64 0); go_must (refine (load_0 _ _ ?_ ?_ ?_).mono ?_; (· simp); (· simp [go_sem]); (· go_simp); rintro e w' ⟨rfl, rfl⟩))
    | (go_at_call_of 17 (Value.int IntKind.i64 1); go_must (refine (load_1 _ _ ?_ ?_ ?_).mono ?_; (· simp); (· simp [go_sem]); (· go_simp); rintro e w' ⟨rfl, rfl⟩))
    | (go_at_call_of 17 (Value.int IntKind.i64 2); go_must (refine (load_2 _ _ ?_ ?_ ?_).mono ?_; (· simp); (· simp [go_sem]); (· go_simp); rintro e w' ⟨rfl, rfl⟩)))
  go_ret
  exact ⟨rfl, rfl⟩
end Go.Proofs.Qxb6500380a
