import Derived.Test.Qxb6500382aRescue
namespace Go.Proofs.Qxb6500382a
open Go.RowKit Go.Shelf

set_option maxHeartbeats 400000 in
theorem busy_no (d : Nat) (W : World) (h : W.cell? ⟨d, 2, none⟩ = some (.int .i64 0)) : Calls Try.prog 11 #[.pointer (some ⟨d, 0, none⟩)] W fun e w' => e = .returned (.bool false) ∧ w' = W := by
  go_enter Try.func11, Try.ntmps11
  go_wp2
  go_ret
  exact ⟨rfl, rfl⟩

theorem mkf (fn : Fn) (first cap : Array Value) (w : World) : (Instr.makeFunc fn first cap).run Try.prog w = .ok (.func fn first cap) w := rfl

set_option maxHeartbeats 400000 in
theorem all_any (root : Value) (hr : root.oneCell' = true) (p : Option Addr) (hp : root = .pointer p) (W : World) : Calls Try.prog 25 #[root] W fun e w' => e = .returned (.func (.func 28) #[] #[.pointer (some ⟨W.heap.size, 0, none⟩)]) ∧ w' = W.alloc (.cells #[root] 41) := by
  subst hp
  have hmf := mkf
  go_enter Try.func25, Try.ntmps25
  go_wp2
  go_ret
  exact ⟨rfl, rfl⟩

set_option maxHeartbeats 400000 in
theorem bare_any (s : Nat) (p : Option Addr) (W : World) (h0 : W.cell? ⟨s, 0, none⟩ = some (.int .i64 2)) (h5 : W.cell? ⟨s, 5, none⟩ = some (.pointer p)) :
    Calls Try.prog 23 #[.pointer (some ⟨s, 0, none⟩)] W fun e w' => e = .returned (.func (.func 28) #[] #[.pointer (some ⟨W.heap.size, 0, none⟩)]) ∧ w' = W.alloc (.cells #[.pointer p] 41) := by
  go_enter Try.func23, Try.ntmps23
  go_wp2_with (go_at_call 25; refine (all_any _ rfl _ rfl _).mono ?_; rintro e w' ⟨rfl, rfl⟩)
  go_ret
  exact ⟨rfl, rfl⟩

set_option maxHeartbeats 400000 in
theorem seq_any (s d : Nat) (W : World) :
    Calls Try.prog 15 #[.pointer (some ⟨s, 0, none⟩), .int .i64 0, .pointer (some ⟨d, 1, none⟩)] W fun e w' =>
      e = .returned (.func (.func 20) #[] #[.pointer (some ⟨W.heap.size + 2, 0, none⟩), .pointer (some ⟨W.heap.size + 1, 0, none⟩), .pointer (some ⟨W.heap.size, 0, none⟩)]) ∧
      w' = ((W.alloc (.cells #[.pointer (some ⟨s, 0, none⟩)] 38)).alloc (.cells #[.int .i64 0] 3)).alloc (.cells #[.pointer (some ⟨d, 1, none⟩)] 50) := by
  have hmf := mkf
  go_enter Try.func15, Try.ntmps15
  go_wp2
  go_ret
  exact ⟨rfl, rfl⟩

set_option maxHeartbeats 1000000 in
theorem fresh_any (d row s cap : Nat) (x y : Value) (W : World) (h0 : W.cell? ⟨d, 0, none⟩ = some (.slice (some ⟨row, 0, none⟩) 1 cap)) (hr : W.cell? ⟨row, 0, none⟩ = some (.pointer (some ⟨s, 0, none⟩)))
    (h6 : W.cell? ⟨s, 6, none⟩ = some x) (h7 : W.cell? ⟨s, 7, none⟩ = some y) (f6 : W.frozen? ⟨s, 6, none⟩ = false) (f7 : W.frozen? ⟨s, 7, none⟩ = false) :
    Calls Try.prog 13 #[.pointer (some ⟨d, 0, none⟩)] W fun e w' => e = .returned (.tuple #[]) ∧ w' = (W.setCell ⟨s, 6, none⟩ (.int .i64 0)).setCell ⟨s, 7, none⟩ (.bool false) := by
  go_enter Try.func13, Try.ntmps13
  go_wp2
  refine wp_loop_rounds 2 ?_
  rw [rounds_succ]
  go_wp2
  rw [rounds_succ]
  go_wp2
  go_end0
  exact ⟨rfl, rfl⟩

set_option maxHeartbeats 400000 in
theorem new_any (W : World) : Calls Try.prog 7 #[] W fun e w' => e = .returned (.pointer (some ⟨W.heap.size, 0, none⟩)) ∧ w' = W.alloc (.cells #[.slice none 0 0, .slice none 0 0, .int .i64 0, .nilFunc, .nilFunc] 37) := by
  go_enter Try.func7, Try.ntmps7
  go_wp2
  go_ret
  exact ⟨rfl, rfl⟩

set_option maxHeartbeats 400000 in
theorem insert_nil (v : Int) (W : World) : Calls Try.prog 12 #[.pointer none, .int .i64 v] W fun e w' => e = .returned (.pointer (some ⟨W.heap.size, 0, none⟩)) ∧ w' = W.alloc (.cells #[.int .i64 v, .pointer none, .pointer none] 55) := by
  go_enter Try.func12, Try.ntmps12
  go_wp2
  go_ret
  exact ⟨rfl, rfl⟩

set_option maxHeartbeats 400000 in
theorem insert_left (b : Nat) (W : World) (h : W.heap[b]? = some (.cells #[.int .i64 3, .pointer none, .pointer none] 55)) :
    Calls Try.prog 12 #[.pointer (some ⟨b, 0, none⟩), .int .i64 1] W fun e w' => e = .returned (.pointer (some ⟨b, 0, none⟩)) ∧ w' = (W.setCell ⟨b, 1, none⟩ (.pointer (some ⟨W.heap.size, 0, none⟩))).alloc (.cells #[.int .i64 1, .pointer none, .pointer none] 55) := by
  have hbl : b < W.heap.size := (Array.getElem?_eq_some_iff.1 h).1
  have c0 : W.cell? ⟨b, 0, none⟩ = some (.int .i64 3) := by rw [cell_at _ _ _ _ _ h]; rfl
  have c1 : W.cell? ⟨b, 1, none⟩ = some (.pointer none) := by rw [cell_at _ _ _ _ _ h]; rfl
  have fz : ∀ o, W.frozen? ⟨b, o, none⟩ = false := fun o => frozen_at _ _ _ _ _ h
  clear h
  go_enter Try.func12, Try.ntmps12
  go_wp2_with (go_at_call 12; refine (insert_nil _ _).mono ?_; rintro e w' ⟨rfl, rfl⟩)
  go_ret
  exact ⟨rfl, rfl⟩

set_option maxHeartbeats 400000 in
theorem insert_right (b : Nat) (W : World) (h : W.heap[b]? = some (.cells #[.int .i64 1, .pointer none, .pointer none] 55)) :
    Calls Try.prog 12 #[.pointer (some ⟨b, 0, none⟩), .int .i64 2] W fun e w' => e = .returned (.pointer (some ⟨b, 0, none⟩)) ∧ w' = (W.setCell ⟨b, 2, none⟩ (.pointer (some ⟨W.heap.size, 0, none⟩))).alloc (.cells #[.int .i64 2, .pointer none, .pointer none] 55) := by
  have hbl : b < W.heap.size := (Array.getElem?_eq_some_iff.1 h).1
  have c0 : W.cell? ⟨b, 0, none⟩ = some (.int .i64 1) := by rw [cell_at _ _ _ _ _ h]; rfl
  have c2 : W.cell? ⟨b, 2, none⟩ = some (.pointer none) := by rw [cell_at _ _ _ _ _ h]; rfl
  have fz : ∀ o, W.frozen? ⟨b, o, none⟩ = false := fun o => frozen_at _ _ _ _ _ h
  clear h
  go_enter Try.func12, Try.ntmps12
  go_wp2_with (go_at_call 12; refine (insert_nil _ _).mono ?_; rintro e w' ⟨rfl, rfl⟩)
  go_ret
  exact ⟨rfl, rfl⟩

set_option maxHeartbeats 400000 in
theorem insert_deep (b b1 : Nat) (W : World) (h : W.heap[b]? = some (.cells #[.int .i64 3, .pointer (some ⟨b1, 0, none⟩), .pointer none] 55)) (h1 : W.heap[b1]? = some (.cells #[.int .i64 1, .pointer none, .pointer none] 55)) :
    Calls Try.prog 12 #[.pointer (some ⟨b, 0, none⟩), .int .i64 2] W fun e w' => e = .returned (.pointer (some ⟨b, 0, none⟩)) ∧
      w' = ((W.setCell ⟨b1, 2, none⟩ (.pointer (some ⟨W.heap.size, 0, none⟩))).setCell ⟨b, 1, none⟩ (.pointer (some ⟨b1, 0, none⟩))).alloc (.cells #[.int .i64 2, .pointer none, .pointer none] 55) := by
  have hbl : b < W.heap.size := (Array.getElem?_eq_some_iff.1 h).1
  have hb1 : b1 < W.heap.size := (Array.getElem?_eq_some_iff.1 h1).1
  have hne : b ≠ b1 := by intro e; rw [e, h1] at h; cases h
  have c0 : W.cell? ⟨b, 0, none⟩ = some (.int .i64 3) := by rw [cell_at _ _ _ _ _ h]; rfl
  have c1 : W.cell? ⟨b, 1, none⟩ = some (.pointer (some ⟨b1, 0, none⟩)) := by rw [cell_at _ _ _ _ _ h]; rfl
  have fz : ∀ o, W.frozen? ⟨b, o, none⟩ = false := fun o => frozen_at _ _ _ _ _ h
  have IR := insert_right b1 W h1
  clear h h1
  go_enter Try.func12, Try.ntmps12
  go_wp2_with (go_at_call 12; refine IR.mono ?_; clear IR; rintro e w' ⟨rfl, rfl⟩)
  go_ret
  exact ⟨rfl, rfl⟩
end Go.Proofs.Qxb6500382a
