import Derived.Test.Qxb6500382aClean
import Derived.Recover
namespace Go.Proofs.Qxb6500382a
open Go.RowKit Go.Shelf

theorem eq_rt (sv : ByteArray) (w : World) : (binOp BinOp.eql 20 (.iface 10 (.string sv)) .nilIface).run Try.prog w = .ok (.bool false) w := by kernel_rfl
theorem eq_ft (w : World) : (binOp BinOp.eql 20 (.iface 57 (.agg #[.int .i64 0, .int .i64 2])) .nilIface).run Try.prog w = .ok (.bool false) w := by kernel_rfl
theorem as_rt1 (sv : ByteArray) (w : World) : (Instr.typeAssert (.iface 10 (.string sv)) 20 57 true).run Try.prog w = .ok (.tuple #[.agg #[.int .i64 0, .int .i64 0], .bool false]) w := by kernel_rfl
theorem as_rt2 (sv : ByteArray) (w : World) : (Instr.typeAssert (.iface 10 (.string sv)) 20 59 true).run Try.prog w = .ok (.tuple #[.iface 10 (.string sv), .bool true]) w := by kernel_rfl
theorem as_ft (w : World) : (Instr.typeAssert (.iface 57 (.agg #[.int .i64 0, .int .i64 2])) 20 57 true).run Try.prog w = .ok (.tuple #[.agg #[.int .i64 0, .int .i64 2], .bool true]) w := by kernel_rfl

/-- A deferred function that asks recover first, a panic being under way. -/
theorem recover_first {P : Program} {f : FuncId} {fn : Func} {id : Nat} {o : Oper} {X Y : Code} {args : Array Value} {v : Value} {w : World} {R : Ending → FrameMode → World → Prop} (hf : P.funcs[f]? = some fn) (hb : fn.body = some (.seq (.seq (.region id #[o] false) X) Y)) (hg : o.guard = none)
    (hr : (execOp (Act.eval { tmps := args ++ Array.replicate (fn.ntmps - args.size) undef, defers := [] }) o).run P w = .ok .recover w)
    (h : ∀ K : Act → World → Prop, (∀ a w, Y.wp P (bodyPost P fn fun e w' => R e (.panicking [{ v, recovered := true }]) w') a w → K a w) →
      X.wp P (Exit.then K (bodyPost P fn fun e w' => R e (.panicking [{ v, recovered := true }]) w')) (Act.put { tmps := args ++ Array.replicate (fn.ntmps - args.size) undef, defers := [] } o.dst v) w) :
    CallsD P f args (.panicking [{ v, recovered := false }]) w R := by
  refine callsD_of_wpS hf hb fun c₀ cs hu => ?_
  have conv : ∀ (e : Exit) (a : Act) (w' : World), bodyPost P fn (fun e w' => R e (.panicking [{ v, recovered := true }]) w') e a w' →
      bodyPostS P fn c₀ cs R e a ({ c₀ with mode := .panicking [{ v, recovered := true }] } :: cs) w' := by
    intro e a w' hq
    cases e with
    | normal => obtain ⟨hd, x, hx, hR⟩ := hq; exact ⟨hd, _, rfl, x, hx, hR⟩
    | ret => obtain ⟨hd, x, hx, hR⟩ := hq; exact ⟨hd, _, rfl, x, hx, hR⟩
    | panic ch => exact ⟨hq.1, _, rfl, hq.2⟩
    | exit id => exact hq.elim
    | goto t => exact hq.elim
    | outgrown => exact ⟨_, hq⟩
  have hw : ∀ (t : Array Value), Region.wanted o (yielded #[o] t) = true := fun t => by simp [Region.wanted, hg]
  apply wpS_seq
  apply wpS_seq
  apply wpS_region
  have hrec : recoverD (c₀ :: cs) = some (v, { c₀ with mode := .panicking [{ v, recovered := true }] } :: cs) := by simp [recoverD, hu]
  show wpOpsS P #[o] _ [0] _ _ w
  simp only [wpOpsS, List.getElem?_toArray, List.getElem?_cons_zero, hr, hrec]
  rw [if_pos (hw _)]
  show X.wpS P _ _ _ w
  refine wpS_of_wp (wp_mono (h (Y.wp P (bodyPost P fn fun e w' => R e (.panicking [{ v, recovered := true }]) w')) (fun _ _ h => h)) ?_)
  intro e a w' hq
  cases e with
  | normal => exact wpS_of_wp (wp_mono hq conv)
  | ret => exact conv (.ret) a w' hq
  | panic ch => exact conv (.panic ch) a w' hq
  | exit id => exact conv (.exit id) a w' hq
  | goto t => exact conv (.goto t) a w' hq
  | outgrown => exact conv (.outgrown) a w' hq

theorem four_set (W : World) (n : Nat) (x y z u a b c d : Value) (t : TypeId) (h : W.heap[n]? = some (.cells #[x, y, z, u] t)) :
    ((((W.setCell ⟨n, 0, none⟩ a).setCell ⟨n, 1, none⟩ b).setCell ⟨n, 2, none⟩ c).setCell ⟨n, 3, none⟩ d).heap[n]? = some (.cells #[a, b, c, d] t) := by
  rw [block_set _ _ _ _ _ _ (block_set _ _ _ _ _ _ (block_set _ _ _ _ _ _ (block_set _ _ _ _ _ _ h)))]
  rfl
theorem four_led {B d : Nat} {sr : Value} {bs : List UInt8} {W : World} (h : Led B d sr bs W) (n : Nat) (x y z u a b c e : Value) (hn : n ≠ d) (ho : W.heap[n]? = some (.cells #[x, y, z, u] 26)) :
    Led B d sr bs ((((W.setCell ⟨n, 0, none⟩ a).setCell ⟨n, 1, none⟩ b).setCell ⟨n, 2, none⟩ c).setCell ⟨n, 3, none⟩ e) := by
  have h1 := block_set _ _ 0 _ _ a ho
  have h2 := block_set _ _ 1 _ _ b h1
  have h3 := block_set _ _ 2 _ _ c h2
  exact (((h.setCell n 0 a hn _ ho rfl).setCell n 1 b hn _ h1 rfl).setCell n 2 c hn _ h2 rfl).setCell n 3 e hn _ h3 rfl

set_option maxRecDepth 100000 in
set_option maxHeartbeats 1000000 in
/-- rescue, deferred by a frame in which a run-time error is under way. -/
theorem rescue_rt (B d ba : Nat) (sr e0 n0 m0 s0 : Value) (sv : ByteArray) (bb : List UInt8) (h0 : 0 < bb.length) (W : World) (hled : Led B d sr bb W) (hba : W.heap[ba]? = some (.cells #[e0, n0, m0, s0] 26)) (hBa : B ≤ ba) :
    CallsD Try.prog 14 #[.pointer (some ⟨d, 0, none⟩), .pointer (some ⟨ba, 0, none⟩)] (.panicking [{ v := .iface 10 (.string sv), recovered := false }]) W fun e u' w' =>
      e = .returned (.tuple #[]) ∧ u' = .panicking [{ v := .iface 10 (.string sv), recovered := true }] ∧ Led B d sr [] w' ∧
      w'.heap[ba]? = some (.cells #[.int .i64 10, .int .i64 0, .int .i64 0, .string ⟨bb.toArray⟩] 26) ∧ MvX B [d, ba] W w' := by
  have nda : ba ≠ d := by obtain ⟨v, hv, _⟩ := hled; intro e; rw [e, hv] at hba; cases hba
  have c0 : W.cell? ⟨ba, 0, none⟩ = some e0 := by rw [cell_at _ _ _ _ _ hba]; rfl
  have c1 : W.cell? ⟨ba, 1, none⟩ = some n0 := by rw [cell_at _ _ _ _ _ hba]; rfl
  have c2 : W.cell? ⟨ba, 2, none⟩ = some m0 := by rw [cell_at _ _ _ _ _ hba]; rfl
  have c3 : W.cell? ⟨ba, 3, none⟩ = some s0 := by rw [cell_at _ _ _ _ _ hba]; rfl
  have fz : ∀ o, W.frozen? ⟨ba, o, none⟩ = false := fun o => frozen_at _ _ _ _ _ hba
  have e1 := eq_rt sv
  have e2 := as_rt1 sv
  have e3 := as_rt2 sv
  have TK := take_any B d sr bb ((((W.setCell ⟨ba, 0, none⟩ (.int .i64 10)).setCell ⟨ba, 1, none⟩ (.int .i64 0)).setCell ⟨ba, 2, none⟩ (.int .i64 0)).setCell ⟨ba, 3, none⟩ (.string { data := #[] })) (four_led hled ba _ _ _ _ _ _ _ _ nda hba) h0
  have H5 : Hid _ := four_set W ba _ _ _ _ (.int .i64 10) (.int .i64 0) (.int .i64 0) (.string { data := #[] }) 26 hba
  have M5 : Hid (MvX B [d, ba] W ((((W.setCell ⟨ba, 0, none⟩ (.int .i64 10)).setCell ⟨ba, 1, none⟩ (.int .i64 0)).setCell ⟨ba, 2, none⟩ (.int .i64 0)).setCell ⟨ba, 3, none⟩ (.string { data := #[] }))) := ((((MvX.refl B _ W).setCell (by simp) hBa _ _).setCell (by simp) hBa _ _).setCell (by simp) hBa _ _).setCell (by simp) hBa _ _
  clear hled hba
  refine recover_first Try.func14 rfl rfl (by rfl) ?_
  intro K hK
  simp only [Try.ntmps14, List.size_toArray, List.length_cons, List.length_nil, Nat.reduceAdd, Nat.reduceSub, Array.replicate_succ, Array.replicate_zero, List.push_toArray, List.append_toArray, List.nil_append, List.cons_append, Act.put, List.setIfInBounds_toArray, List.set_cons_zero, List.set_cons_succ]
  go_wp2_with fail
  refine TK.mono ?_
  clear TK c0 c1 c2 c3 fz
  rintro e w6 ⟨rfl, hl6, hm6⟩
  have q := hm6.keep ba _ nda H5.out rfl
  have ca : w6.cell? ⟨ba, 3, none⟩ = some (.string { data := #[] }) := by rw [cell_at _ _ _ _ _ q]; rfl
  have fa : w6.frozen? ⟨ba, 3, none⟩ = false := frozen_at _ _ _ _ _ q
  have r1 : Hid (Led B d sr [] (w6.setCell ⟨ba, 3, none⟩ (.string ⟨bb.toArray⟩))) := hl6.setCell ba 3 _ nda _ q rfl
  have r2 : Hid ((w6.setCell ⟨ba, 3, none⟩ (.string ⟨bb.toArray⟩)).heap[ba]? = some (.cells #[.int .i64 10, .int .i64 0, .int .i64 0, .string ⟨bb.toArray⟩] 26)) := by
    unfold Hid; rw [block_set _ _ _ _ _ _ q]; rfl
  have r3 : Hid (MvX B [d, ba] W (w6.setCell ⟨ba, 3, none⟩ (.string ⟨bb.toArray⟩))) := (M5.out.trans (hm6.x (by simp))).setCell (by simp) hBa _ _
  clear q hl6 hm6 H5 M5
  go_wp2
  go_end0
  exact ⟨rfl, r1.out, r2.out, r3.out⟩

set_option maxRecDepth 100000 in
set_option maxHeartbeats 1000000 in
/-- rescue, deferred by a frame in which a source's throw is under way. -/
theorem rescue_ft (B d ba : Nat) (sr e0 n0 m0 s0 : Value) (bb : List UInt8) (h0 : 0 < bb.length) (W : World) (hled : Led B d sr bb W) (hba : W.heap[ba]? = some (.cells #[e0, n0, m0, s0] 26)) (hBa : B ≤ ba) :
    CallsD Try.prog 14 #[.pointer (some ⟨d, 0, none⟩), .pointer (some ⟨ba, 0, none⟩)] (.panicking [{ v := .iface 57 (.agg #[.int .i64 0, .int .i64 2]), recovered := false }]) W fun e u' w' =>
      e = .returned (.tuple #[]) ∧ u' = .panicking [{ v := .iface 57 (.agg #[.int .i64 0, .int .i64 2]), recovered := true }] ∧ Led B d sr [] w' ∧
      w'.heap[ba]? = some (.cells #[.int .i64 9, .int .i64 0, .int .i64 2, .string ⟨bb.toArray⟩] 26) ∧ MvX B [d, ba] W w' := by
  have nda : ba ≠ d := by obtain ⟨v, hv, _⟩ := hled; intro e; rw [e, hv] at hba; cases hba
  have c0 : W.cell? ⟨ba, 0, none⟩ = some e0 := by rw [cell_at _ _ _ _ _ hba]; rfl
  have c1 : W.cell? ⟨ba, 1, none⟩ = some n0 := by rw [cell_at _ _ _ _ _ hba]; rfl
  have c2 : W.cell? ⟨ba, 2, none⟩ = some m0 := by rw [cell_at _ _ _ _ _ hba]; rfl
  have c3 : W.cell? ⟨ba, 3, none⟩ = some s0 := by rw [cell_at _ _ _ _ _ hba]; rfl
  have fz : ∀ o, W.frozen? ⟨ba, o, none⟩ = false := fun o => frozen_at _ _ _ _ _ hba
  have e1 := eq_ft
  have e2 := as_ft
  have hbal : ba < W.heap.size := (Array.getElem?_eq_some_iff.1 hba).1
  have hdl := hled.lt
  have TK := take_any B d sr bb (((((W.setCell ⟨ba, 0, none⟩ (.int .i64 9)).setCell ⟨ba, 1, none⟩ (.int .i64 0)).setCell ⟨ba, 2, none⟩ (.int .i64 2)).setCell ⟨ba, 3, none⟩ (.string { data := #[] })).alloc (.cells #[.int .i64 0, .int .i64 2] 57)) ((four_led hled ba _ _ _ _ _ _ _ _ nda hba).below ((Below.refl _ _).alloc (Nat.le_refl _) _)) h0
  have H5 : Hid _ := (Below.heap_alloc _ (.cells #[.int .i64 0, .int .i64 2] 57) _ (by simp; exact hbal)).trans (four_set W ba _ _ _ _ (.int .i64 9) (.int .i64 0) (.int .i64 2) (.string { data := #[] }) 26 hba)
  have M5 : Hid (MvX B [d, ba] W (((((W.setCell ⟨ba, 0, none⟩ (.int .i64 9)).setCell ⟨ba, 1, none⟩ (.int .i64 0)).setCell ⟨ba, 2, none⟩ (.int .i64 2)).setCell ⟨ba, 3, none⟩ (.string { data := #[] })).alloc (.cells #[.int .i64 0, .int .i64 2] 57))) := (((((MvX.refl B _ W).setCell (by simp) hBa _ _).setCell (by simp) hBa _ _).setCell (by simp) hBa _ _).setCell (by simp) hBa _ _).alloc (by simp; omega) _
  clear hled hba
  refine recover_first Try.func14 rfl rfl (by rfl) ?_
  intro K hK
  simp only [Try.ntmps14, List.size_toArray, List.length_cons, List.length_nil, Nat.reduceAdd, Nat.reduceSub, Array.replicate_succ, Array.replicate_zero, List.push_toArray, List.append_toArray, List.nil_append, List.cons_append, Act.put, List.setIfInBounds_toArray, List.set_cons_zero, List.set_cons_succ]
  go_wp2_with fail
  refine TK.mono ?_
  clear TK c0 c1 c2 c3 fz
  rintro e w6 ⟨rfl, hl6, hm6⟩
  have q := hm6.keep ba _ nda H5.out rfl
  have ca : w6.cell? ⟨ba, 3, none⟩ = some (.string { data := #[] }) := by rw [cell_at _ _ _ _ _ q]; rfl
  have fa : w6.frozen? ⟨ba, 3, none⟩ = false := frozen_at _ _ _ _ _ q
  have r1 : Hid (Led B d sr [] (w6.setCell ⟨ba, 3, none⟩ (.string ⟨bb.toArray⟩))) := hl6.setCell ba 3 _ nda _ q rfl
  have r2 : Hid ((w6.setCell ⟨ba, 3, none⟩ (.string ⟨bb.toArray⟩)).heap[ba]? = some (.cells #[.int .i64 9, .int .i64 0, .int .i64 2, .string ⟨bb.toArray⟩] 26)) := by
    unfold Hid; rw [block_set _ _ _ _ _ _ q]; rfl
  have r3 : Hid (MvX B [d, ba] W (w6.setCell ⟨ba, 3, none⟩ (.string ⟨bb.toArray⟩))) := (M5.out.trans (hm6.x (by simp))).setCell (by simp) hBa _ _
  clear q hl6 hm6 H5 M5
  go_wp2
  go_end0
  exact ⟨rfl, r1.out, r2.out, r3.out⟩
end Go.Proofs.Qxb6500382a
