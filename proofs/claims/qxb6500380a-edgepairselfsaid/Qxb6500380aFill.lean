import Derived.Test.Qxb6500380aLoad
import Derived.Test.Qxb6500380aComm
import Derived.Deep.Cut
namespace Go.Proofs.Qxb6500380a
open Go.RowKit

/-- What a channel's buffer holds once the first k items have been sent. -/
def chBuf (xs : List Nat) : Array Value := (xs.map fun x => Value.int .i64 (x : Nat)).toArray
theorem putCh_alloc (w : World) (o o' : Obj) : putCh (w.alloc o) w.heap.size o' = w.alloc o' := by
  have e : (w.heap.push o).setIfInBounds w.heap.size o' = w.heap.push o' := by
    apply Array.ext
    · simp
    · intro i h1 h2
      rw [Array.getElem_setIfInBounds (by simpa using h1), Array.getElem_push, Array.getElem_push]
      by_cases e : i < w.heap.size
      · have : w.heap.size ≠ i := by omega
        simp [e, this]
      · have : w.heap.size = i := by simp at h1; omega
        simp [this]
  simp only [putCh, World.alloc, e]
theorem heap_new (w : World) (o : Obj) : (w.alloc o).heap[w.heap.size]? = some o := by
  show (w.heap.push o)[w.heap.size]? = some o
  simp
theorem chBuf_push (xs : List Nat) (k v : Nat) (h : k < xs.length) (hv : xs.getD k 0 = v) : (chBuf (xs.take k)).push (.int .i64 (v : Nat)) = chBuf (xs.take (k + 1)) := by
  subst hv
  rw [List.take_succ_eq_append_getElem h]
  unfold chBuf
  rw [List.map_append]
  simp [List.getD_eq_getElem?_getD, h, -List.map_take]
theorem chBuf_size (xs : List Nat) : (chBuf xs).size = xs.length := by simp [chBuf]

set_option maxHeartbeats 400000 in
theorem fill_any (xs : List Nat) (hn : xs.length ≤ 6) (b cap : Nat) (w : World) (hb : b < w.heap.size)
    (hc : ∀ j, j < xs.length → w.cell? ⟨b, j, none⟩ = some (.int .i64 (xs.getD j 0 : Nat))) :
    Calls Try.prog 25 #[.slice (some ⟨b, 0, none⟩) xs.length cap] w fun e w' => e = .returned (.chan (some w.heap.size)) ∧ w' = w.alloc (.chan 6 (chBuf xs) false xs.length 0 false) := by
  have hmk := mk6
  go_enter Try.func25, Try.ntmps25
  go_wp2
  go_loopw [9] (fun i wr => ∃ k : Nat, k ≤ xs.length ∧ i = .int .i64 k ∧ wr = w.alloc (.chan 6 (chBuf (xs.take k)) false k 0 false)) (fun i _ => xs.length - (intOf i).toNat)
  case atStart => exact ⟨0, Nat.zero_le _, rfl, rfl⟩
  case round =>
    obtain ⟨k, hk, rfl, rfl⟩ := hrel
    by_cases hlt : k < xs.length
    · obtain ⟨v, hck, HS⟩ : ∃ v : Nat, (w.alloc (.chan 6 (chBuf (xs.take k)) false k 0 false)).cell? ⟨b, k, none⟩ = some (.int .i64 v) ∧ Hid ((chBuf (xs.take k)).push (.int .i64 (v : Nat)) = chBuf (xs.take (k + 1))) :=
        ⟨xs.getD k 0, (((Below.refl w.heap.size w).alloc (Nat.le_refl _) _).cell (p := ⟨b, k, none⟩) hb).trans (hc k hlt), chBuf_push xs k _ hlt rfl⟩
      clear hc
      go_upto_region 5 with fail
      refine inReg_region3 ?_
      refine inReg_value rfl rfl (by simp [execOp, Act.eval]; exact ⟨rfl, rfl⟩) ?_
      refine inReg_value rfl rfl (by simp [execOp, Act.eval]; exact ⟨rfl, rfl⟩) ?_
      refine inReg_send (c := w.heap.size) (v := .int .i64 v) (cap := 6) (buf := chBuf (xs.take k)) (s := k) (r := 0) (tm := false) (z := .tuple #[]) rfl rfl (by simp [execOp, Act.eval, Act.put]) (heap_new _ _) (by simp [chBuf_size]; omega) ?_
      refine inReg_end ?_
      rw [putCh_alloc, HS.out]
      simp only [Act.put, List.getElem_toArray, List.getElem_cons_zero, List.getElem_cons_succ, List.setIfInBounds_toArray, List.set_cons_zero, List.set_cons_succ, List.getElem?_toArray, List.getElem?_cons_zero, List.getElem?_cons_succ, Option.getD_some]
      go_wp2
      go_roundw
      case rel => exact ⟨k + 1, by omega, by go_num, rfl⟩
      case measure => simp [intOf]; omega
    · go_wp2
      go_ret
      have e : k = xs.length := by omega
      subst e
      exact ⟨rfl, by simp⟩
end Go.Proofs.Qxb6500380a
