import Derived.Test.Qxb6500382aDesk
namespace Go.Proofs.Qxb6500382a
open Go.RowKit Go.Shelf
variable {B d s row cap : Nat} {cur : Array Value} {b1 b2 b3 : Nat} {W : World}

theorem DS.alloc (h : DS B d s row cap cur b1 b2 b3 W) (o : Obj) : DS B d s row cap cur b1 b2 b3 (W.alloc o) :=
  h.mv ((MvX.refl B _ W).alloc (by have := h.led.lt; omega) o) (h.led.alloc o) (h.src.imp fun _ k => keep_alloc k)

theorem eq_one (w : World) : (binOp BinOp.eql 26 (.agg #[.int .i64 10, .int .i64 0, .int .i64 0, .string { data := #[111, 48, 112, 48, 61, 49, 46, 48, 112, 48, 99, 48] }]) (.agg #[.int .i64 10, .int .i64 0, .int .i64 0, .string { data := #[111, 48, 112, 48, 61, 49, 46, 48, 112, 48, 99, 48] }])).run Try.prog w = .ok (.bool true) w := by kernel_rfl
theorem eq_two (w : World) : (binOp BinOp.eql 26 (.agg #[.int .i64 9, .int .i64 0, .int .i64 2, .string { data := #[111, 48, 112, 48, 61, 49, 46, 48, 112, 48, 61, 50, 46, 48, 99, 48] }]) (.agg #[.int .i64 9, .int .i64 0, .int .i64 2, .string { data := #[111, 48, 112, 48, 61, 49, 46, 48, 112, 48, 61, 50, 46, 48, 99, 48] }])).run Try.prog w = .ok (.bool true) w := by kernel_rfl

/-- The desk behind New and Add. -/
theorem ds_start (w V : World) (s b1 b2 b3 row cap : Nat) (cur : Array Value) (h : AddEnd (w.alloc (.cells #[.slice none 0 0, .slice none 0 0, .int .i64 0, .nilFunc, .nilFunc] 37)) w.heap.size s b1 b2 b3 row cap cur V) :
    DS w.heap.size w.heap.size s row cap cur b1 b2 b3 V ∧ Below w.heap.size w V := by
  refine ⟨⟨⟨_, h.desk, ?_, Nat.le_refl _⟩, h.row, h.one, ⟨0, h.src⟩, h.n1, h.n2, h.n3, ?_⟩, ?_⟩
  · exact World.ownsRow_nil _ _ _ _
  · have := h.hi; simp at this; omega
  · have hz := h.size
    simp at hz
    refine ⟨h.os, h.tape, h.output, by omega, fun k hk => ?_⟩
    rw [h.low k (by simp; omega) (by omega), Below.heap_alloc _ _ _ hk]

theorem below_mv {B : Nat} {X : List Nat} {w V V' : World} (h : Below B w V) (m : MvX B X V V') : Below B w V' :=
  ⟨m.os.trans h.os, m.tape.trans h.tape, m.output.trans h.output, Nat.le_trans h.size m.size, fun k hk => (m.low k hk).trans (h.block k hk)⟩

def HeadAny : Prop := ∀ (B d s row cap : Nat) (cur : Array Value) (b1 b2 b3 : Nat) (W : World), DS B d s row cap cur b1 b2 b3 W → ∀ n : Nat, 1 ≤ n → n ≤ 9 →
    Calls Try.prog 9 #[.pointer (some ⟨d, 0, none⟩), .int .i64 0, .int .i64 n] W fun e V => e = .returned (.agg (ans n)) ∧ DS B d s row cap cur b1 b2 b3 V ∧ MvX B [d, s] W V

set_option maxRecDepth 100000 in
set_option maxHeartbeats 4000000 in
theorem edge_walk (HD : HeadAny) (w : World) : Calls Try.prog 6 #[] w fun e w' => e = .returned (.bool true) ∧ Below w.heap.size w w' := by
  have H1 : ∀ (s row cap : Nat) (cur : Array Value) (b1 b2 b3 : Nat) (W : World), Hid (DS w.heap.size w.heap.size s row cap cur b1 b2 b3 W) → Calls Try.prog 9 #[.pointer (some ⟨w.heap.size, 0, none⟩), .int .i64 0, .int .i64 1] W fun e V => e = .returned (.agg #[.int .i64 10, .int .i64 0, .int .i64 0, .string { data := #[111, 48, 112, 48, 61, 49, 46, 48, 112, 48, 99, 48] }]) ∧ Hid (DS w.heap.size w.heap.size s row cap cur b1 b2 b3 V ∧ MvX w.heap.size [w.heap.size, s] W V) :=
    fun s row cap cur b1 b2 b3 W h => (HD _ _ _ _ _ _ _ _ _ _ h.out 1 (by omega) (by omega)).mono fun e V q => ⟨q.1, q.2⟩
  have H2 : ∀ (n : Nat), 2 ≤ n → n ≤ 9 → ∀ (s row cap : Nat) (cur : Array Value) (b1 b2 b3 : Nat) (W : World), Hid (DS w.heap.size w.heap.size s row cap cur b1 b2 b3 W) → Calls Try.prog 9 #[.pointer (some ⟨w.heap.size, 0, none⟩), .int .i64 0, .int .i64 n] W fun e V => e = .returned (.agg #[.int .i64 9, .int .i64 0, .int .i64 2, .string { data := #[111, 48, 112, 48, 61, 49, 46, 48, 112, 48, 61, 50, 46, 48, 99, 48] }]) ∧ Hid (DS w.heap.size w.heap.size s row cap cur b1 b2 b3 V ∧ MvX w.heap.size [w.heap.size, s] W V) := by
    intro n n2 n9 s row cap cur b1 b2 b3 W h
    have k := HD _ _ _ _ _ _ _ _ _ _ h.out n (by omega) n9
    unfold ans at k
    rw [if_neg (by omega)] at k
    exact k.mono fun e V q => ⟨q.1, q.2⟩
  have H2' : Hid _ := H2 2 (by omega) (by omega)
  have H3' : Hid _ := H2 3 (by omega) (by omega)
  have H1' : Hid _ := H1
  clear H1 H2 HD
  go_enter Try.func6, Try.ntmps6
  go_wp2_with (go_at_call 7; refine (new_any _).mono ?_; rintro e w' ⟨rfl, rfl⟩)
  go_at_call 8
  refine (add_any w.heap.size _ (World.alloc_heap_new _ _)).mono ?_
  rintro e V ⟨v, s, b1, b2, b3, row, cap, cur, rfl, hE⟩
  have D0 : Hid _ := ds_start w V s b1 b2 b3 row cap cur hE
  clear hE
  go_wp2_with fail
  go_at_call 9
  refine (H1'.out s row cap cur b1 b2 b3 V D0.out.1).mono ?_
  rintro e V1 ⟨rfl, h1⟩
  have B1 : Hid (Below w.heap.size w V1) := below_mv D0.out.2 h1.out.2
  clear D0 H1'
  go_wp2_with fail
  have B1' : Hid (Below w.heap.size w (V1.alloc (.cells #[.int .i64 10, .int .i64 0, .int .i64 0, .string { data := #[111, 48, 112, 48, 61, 49, 46, 48, 112, 48, 99, 48] }] 26))) := B1.out.alloc B1.out.size _
  have D1 : Hid _ := h1.out.1.alloc (.cells #[.int .i64 10, .int .i64 0, .int .i64 0, .string { data := #[111, 48, 112, 48, 61, 49, 46, 48, 112, 48, 99, 48] }] 26)
  have o1 := h1.out.1.out
  have R1 : Hid _ := World.alloc_heap_new V1 (.cells #[.int .i64 10, .int .i64 0, .int .i64 0, .string { data := #[111, 48, 112, 48, 61, 49, 46, 48, 112, 48, 99, 48] }] 26)
  clear h1 B1
  have n1 : V1.heap.size ∉ [w.heap.size, s] := by
    simp only [List.mem_cons, List.not_mem_nil, or_false, not_or]
    constructor <;> omega
  have N1 : Hid _ := n1
  clear o1 n1
  revert B1' D1 R1 N1
  generalize V1.alloc (.cells #[.int .i64 10, .int .i64 0, .int .i64 0, .string { data := #[111, 48, 112, 48, 61, 49, 46, 48, 112, 48, 99, 48] }] 26) = V1'
  generalize V1.heap.size = r1
  intro B1' D1 R1 N1
  clear V1
  go_at_call 9
  refine (H2'.out s row cap cur b1 b2 b3 V1' D1.out).mono ?_
  rintro e V2 ⟨rfl, h2⟩
  have B2 : Hid (Below w.heap.size w V2) := below_mv B1'.out h2.out.2
  have R2 : Hid _ := h2.out.2.keep _ _ N1.out R1.out rfl
  clear D1 H2' B1' R1
  go_wp2_with fail
  have B2' : Hid (Below w.heap.size w (V2.alloc (.cells #[.int .i64 9, .int .i64 0, .int .i64 2, .string { data := #[111, 48, 112, 48, 61, 49, 46, 48, 112, 48, 61, 50, 46, 48, 99, 48] }] 26))) := B2.out.alloc B2.out.size _
  have D2 : Hid _ := h2.out.1.alloc (.cells #[.int .i64 9, .int .i64 0, .int .i64 2, .string { data := #[111, 48, 112, 48, 61, 49, 46, 48, 112, 48, 61, 50, 46, 48, 99, 48] }] 26)
  have o2 := h2.out.1.out
  have R2' : Hid _ := keep_alloc (o' := .cells #[.int .i64 9, .int .i64 0, .int .i64 2, .string { data := #[111, 48, 112, 48, 61, 49, 46, 48, 112, 48, 61, 50, 46, 48, 99, 48] }] 26) R2.out
  have S2 : Hid _ := World.alloc_heap_new V2 (.cells #[.int .i64 9, .int .i64 0, .int .i64 2, .string { data := #[111, 48, 112, 48, 61, 49, 46, 48, 112, 48, 61, 50, 46, 48, 99, 48] }] 26)
  clear h2 B2 R2
  have n2 : V2.heap.size ∉ [w.heap.size, s] := by
    simp only [List.mem_cons, List.not_mem_nil, or_false, not_or]
    constructor <;> omega
  have N2 : Hid _ := n2
  clear o2 n2
  revert B2' D2 R2' S2 N2
  generalize V2.alloc (.cells #[.int .i64 9, .int .i64 0, .int .i64 2, .string { data := #[111, 48, 112, 48, 61, 49, 46, 48, 112, 48, 61, 50, 46, 48, 99, 48] }] 26) = V2'
  generalize V2.heap.size = r2
  intro B2' D2 R2' S2 N2
  clear V2
  go_at_call 9
  refine (H3'.out s row cap cur b1 b2 b3 V2' D2.out).mono ?_
  rintro e V3 ⟨rfl, h3⟩
  have B3 : Hid (Below w.heap.size w V3) := below_mv B2'.out h3.out.2
  have R3 : Hid _ := h3.out.2.keep _ _ N1.out R2'.out rfl
  have S3 : Hid _ := h3.out.2.keep _ _ N2.out S2.out rfl
  clear D2 H3' B2' R2' S2
  have B3' : Hid (Below w.heap.size w (V3.alloc (.cells #[.int .i64 9, .int .i64 0, .int .i64 2, .string { data := #[111, 48, 112, 48, 61, 49, 46, 48, 112, 48, 61, 50, 46, 48, 99, 48] }] 26))) := B3.out.alloc B3.out.size _
  have R3' := keep_alloc (o' := .cells #[.int .i64 9, .int .i64 0, .int .i64 2, .string { data := #[111, 48, 112, 48, 61, 49, 46, 48, 112, 48, 61, 50, 46, 48, 99, 48] }] 26) R3.out
  have S3' := keep_alloc (o' := .cells #[.int .i64 9, .int .i64 0, .int .i64 2, .string { data := #[111, 48, 112, 48, 61, 49, 46, 48, 112, 48, 61, 50, 46, 48, 99, 48] }] 26) S3.out
  have T3' := World.alloc_heap_new V3 (.cells #[.int .i64 9, .int .i64 0, .int .i64 2, .string { data := #[111, 48, 112, 48, 61, 49, 46, 48, 112, 48, 61, 50, 46, 48, 99, 48] }] 26)
  clear B3 h3 R3 S3
  have x0 : (V3.alloc (.cells #[.int .i64 9, .int .i64 0, .int .i64 2, .string { data := #[111, 48, 112, 48, 61, 49, 46, 48, 112, 48, 61, 50, 46, 48, 99, 48] }] 26)).cell? ⟨r1, 0, none⟩ = some (.int .i64 10) := by rw [cell_at _ _ _ _ _ R3']; rfl
  have x1 : (V3.alloc (.cells #[.int .i64 9, .int .i64 0, .int .i64 2, .string { data := #[111, 48, 112, 48, 61, 49, 46, 48, 112, 48, 61, 50, 46, 48, 99, 48] }] 26)).cell? ⟨r1, 1, none⟩ = some (.int .i64 0) := by rw [cell_at _ _ _ _ _ R3']; rfl
  have x2 : (V3.alloc (.cells #[.int .i64 9, .int .i64 0, .int .i64 2, .string { data := #[111, 48, 112, 48, 61, 49, 46, 48, 112, 48, 61, 50, 46, 48, 99, 48] }] 26)).cell? ⟨r1, 2, none⟩ = some (.int .i64 0) := by rw [cell_at _ _ _ _ _ R3']; rfl
  have x3 : (V3.alloc (.cells #[.int .i64 9, .int .i64 0, .int .i64 2, .string { data := #[111, 48, 112, 48, 61, 49, 46, 48, 112, 48, 61, 50, 46, 48, 99, 48] }] 26)).cell? ⟨r1, 3, none⟩ = some (.string { data := #[111, 48, 112, 48, 61, 49, 46, 48, 112, 48, 99, 48] }) := by rw [cell_at _ _ _ _ _ R3']; rfl
  have y0 : (V3.alloc (.cells #[.int .i64 9, .int .i64 0, .int .i64 2, .string { data := #[111, 48, 112, 48, 61, 49, 46, 48, 112, 48, 61, 50, 46, 48, 99, 48] }] 26)).cell? ⟨r2, 0, none⟩ = some (.int .i64 9) := by rw [cell_at _ _ _ _ _ S3']; rfl
  have y1 : (V3.alloc (.cells #[.int .i64 9, .int .i64 0, .int .i64 2, .string { data := #[111, 48, 112, 48, 61, 49, 46, 48, 112, 48, 61, 50, 46, 48, 99, 48] }] 26)).cell? ⟨r2, 1, none⟩ = some (.int .i64 0) := by rw [cell_at _ _ _ _ _ S3']; rfl
  have y2 : (V3.alloc (.cells #[.int .i64 9, .int .i64 0, .int .i64 2, .string { data := #[111, 48, 112, 48, 61, 49, 46, 48, 112, 48, 61, 50, 46, 48, 99, 48] }] 26)).cell? ⟨r2, 2, none⟩ = some (.int .i64 2) := by rw [cell_at _ _ _ _ _ S3']; rfl
  have y3 : (V3.alloc (.cells #[.int .i64 9, .int .i64 0, .int .i64 2, .string { data := #[111, 48, 112, 48, 61, 49, 46, 48, 112, 48, 61, 50, 46, 48, 99, 48] }] 26)).cell? ⟨r2, 3, none⟩ = some (.string { data := #[111, 48, 112, 48, 61, 49, 46, 48, 112, 48, 61, 50, 46, 48, 99, 48] }) := by rw [cell_at _ _ _ _ _ S3']; rfl
  clear R3' S3' T3'
  have q1 := eq_one
  have q2 := eq_two
  go_wp2
  go_ret
  exact ⟨rfl, B3'.out⟩
end Go.Proofs.Qxb6500382a
