import Derived.Test.Qxb6500382aBase
import Derived.Test.Qxb6500382aRound
import Derived.RangeFuncNested
import Derived.Shelf.Abstract
import Derived.Shelf.RegionOpen
import Derived.OwnWalkIn
import Derived.TacticsInMore
import Derived.LoopNIn
import Derived.LoopIn
namespace Go.Proofs.Qxb6500382a
open Go.RowKit Go.Shelf
attribute [local go_sem] Oper.semAt_some

set_option maxHeartbeats 400000 in
theorem walk_nil (y : Value) (W : World) : Calls Try.prog 29 #[.pointer none, y] W fun e w' => e = .returned (.bool true) ∧ w' = W := by
  go_enter Try.func29, Try.ntmps29
  go_wp2
  go_ret
  exact ⟨rfl, rfl⟩

set_option maxHeartbeats 1000000 in
theorem walk_node (b l : Nat) (x : Int) (L Rr : Value) (W : World) (R : Ending → World → Prop) (A1 A2 : World → Prop)
    (hn : W.heap[b]? = some (.cells #[.int .i64 x, L, Rr] 55))
    (hL : Calls Try.prog 29 #[L, .func (.yield l) #[] #[]] W fun e w' => (e = .returned (.bool true) ∧ A1 w') ∨ (∃ ch, e = .panicked ch ∧ R (.panicked ch) w'))
    (hn1 : ∀ W1, A1 W1 → W1.heap[b]? = some (.cells #[.int .i64 x, L, Rr] 55))
    (hY : ∀ W1, A1 W1 → YieldAt Fence.wide 4 Try.prog l #[.int .i64 x] W1 fun e w' => (e = .returned (.bool true) ∧ A2 w') ∨ (∃ ch, e = .panicked ch ∧ R (.panicked ch) w'))
    (hn2 : ∀ W2, A2 W2 → W2.heap[b]? = some (.cells #[.int .i64 x, L, Rr] 55))
    (hR : ∀ W2, A2 W2 → Calls Try.prog 29 #[Rr, .func (.yield l) #[] #[]] W2 fun e w' => (e = .returned (.bool true) ∧ R (.returned (.bool true)) w') ∨ (∃ ch, e = .panicked ch ∧ R (.panicked ch) w')) :
    Calls Try.prog 29 #[.pointer (some ⟨b, 0, none⟩), .func (.yield l) #[] #[]] W R := by
  have c1 : W.cell? ⟨b, 1, none⟩ = some L := by rw [cell_at _ _ _ _ _ hn]; rfl
  have HN1 : Hid _ := hn1
  have HN2 : Hid _ := hn2
  have HY : Hid _ := hY
  have HR : Hid _ := hR
  clear hn hn1 hn2 hY hR
  refine (callsIn_wide (n := 5)).1 ?_
  refine callsIn_of_wp Try.func29 rfl trivial ?_ rfl
  simp only [Try.ntmps29, List.size_toArray, List.length_cons, List.length_nil, Nat.reduceAdd, Nat.reduceSub, Array.replicate_succ, Array.replicate_zero, List.push_toArray, List.append_toArray, List.nil_append, List.cons_append]
  gi_wp2_with fail
  refine ⟨trivial, (callsIn_wide.2 hL).mono ?_⟩
  clear hL c1
  rintro e W1 (⟨rfl, hA⟩ | ⟨ch, rfl, hr⟩)
  · have c0 : W1.cell? ⟨b, 0, none⟩ = some (.int .i64 x) := by rw [cell_at _ _ _ _ _ (HN1.out W1 hA)]; rfl
    obtain ⟨fn, tmps, assign, body, hy, hRd⟩ := HY.out W1 hA
    gi_wp2_with fail
    refine hRd.mono ?_
    clear hRd hy c0
    rintro e W2 (⟨rfl, hA2⟩ | ⟨ch, rfl, hr⟩)
    · have c2 : W2.cell? ⟨b, 2, none⟩ = some Rr := by rw [cell_at _ _ _ _ _ (HN2.out W2 hA2)]; rfl
      gi_wp2_with fail
      refine ⟨trivial, (callsIn_wide.2 (HR.out W2 hA2)).mono ?_⟩
      rintro e W3 (⟨rfl, hr⟩ | ⟨ch, rfl, hr⟩)
      · gi_wp2
        exact hr
      · exact ⟨rfl, hr⟩
    · exact ⟨rfl, hr⟩
  · exact ⟨rfl, hr⟩
end Go.Proofs.Qxb6500382a
