import Derived.WalkKit
import Derived.Deep.Draws
/-! Communication in one goroutine, as laws on a region ('Code.wp'): a send with room; a select of two receives, one or both ready. -/
namespace Go.Proofs.Qxb6500380a
open Go.RowKit

/-- Block c is laid anew. -/
def putCh (w : World) (c : Nat) (o : Obj) : World := { w with heap := w.heap.setIfInBounds c o }
theorem putCh_same (w : World) (c : Nat) (o : Obj) (h : c < w.heap.size) : (putCh w c o).heap[c]? = some o := by simp [putCh, h]
theorem putCh_other (w : World) (c c' : Nat) (o : Obj) (h : c ≠ c') : (putCh w c o).heap[c']? = w.heap[c']? := by simp [putCh, Array.getElem?_setIfInBounds_ne h]
theorem putCh_size (w : World) (c : Nat) (o : Obj) : (putCh w c o).heap.size = w.heap.size := by simp [putCh]
theorem below_putCh {B : Nat} {a w : World} (h : Below B a w) {c : Nat} (hc : B ≤ c) (o : Obj) : Below B a (putCh w c o) :=
  h.trans ⟨rfl, rfl, rfl, by simp [putCh], fun k hk => by simp only [putCh]; rw [Array.getElem?_setIfInBounds_ne (by omega)]⟩

/-- From inside a region, the operations l still ahead, the walk comes to Q. -/
def InReg (P : Program) (ops : Array Oper) (Q : Exit → Act → World → Prop) (l : List Nat) (a : Act) (w : World) : Prop :=
  ∀ (b : Frame) (k : List Item) (cs : List Frame), ∃ e a' w', Q e a' w' ∧ Arrives P (lone (b.at a (.inRegion ops l :: k)) cs w) b k cs e a' w'

section
variable {P : Program} {ops : Array Oper} {Q : Exit → Act → World → Prop} {a : Act} {w w' : World} {o : Oper} {i : Nat} {rest : List Nat} {v : Value}

theorem inReg_region {id : Nat} (h : InReg P ops Q (List.range ops.size) a w) : (Code.region id ops false).wp P Q a w :=
  fun b k cs => let ⟨e, a', w', q, r⟩ := h b k cs; ⟨e, a', w', q, .of_steps (.one step_region) r⟩
theorem inReg_region3 {id : Nat} {o0 o1 o2 : Oper} (h : InReg P #[o0, o1, o2] Q [0, 1, 2] a w) : (Code.region id #[o0, o1, o2] false).wp P Q a w := inReg_region h
theorem inReg_region4 {id : Nat} {o0 o1 o2 o3 : Oper} (h : InReg P #[o0, o1, o2, o3] Q [0, 1, 2, 3] a w) : (Code.region id #[o0, o1, o2, o3] false).wp P Q a w := inReg_region h
theorem inReg_list3 {o0 o1 o2 o3 : Oper} (h : wpList P #[o0, o1, o2, o3] Q [o1, o2, o3] a w) : InReg P #[o0, o1, o2, o3] Q [1, 2, 3] a w := by
  refine fun b k cs => wp_ops _ a w ?_ b k cs
  have e := wpOps_eq_wpList (P := P) (Q := Q) (ops := #[o0, o1, o2, o3]) [o1, o2, o3] 1 (fun j => by rcases j with _ | _ | _ | j <;> simp [Nat.add_comm 1])
  have : wpOps P #[o0, o1, o2, o3] Q (List.range' 1 3) a w := by rw [show (3 : Nat) = [o1, o2, o3].length from rfl, e]; exact h
  exact this
theorem inReg_end (h : Q .normal a w) : InReg P ops Q [] a w := fun _ _ _ => ⟨.normal, a, w, h, .one step_region_end⟩
theorem inReg_rest (h : wpOps P ops Q rest a w) : InReg P ops Q rest a w := fun b k cs => wp_ops rest a w h b k cs

theorem inReg_value (ho : ops[i]? = some o) (hw : Region.wanted o (yielded ops a.tmps) = true) (hr : (execOp a.eval o).run P w = .ok (.value v) w') (h : InReg P ops Q rest (a.put o.dst v) w') :
    InReg P ops Q (i :: rest) a w := by
  intro b k cs
  obtain ⟨e, a', w'', hq, harr⟩ := h b k cs
  refine ⟨e, a', w'', hq, .of_steps (.one (step_lone_go ?_)) harr⟩
  have hfin : (b.at a (.inRegion ops (i :: rest) :: k)).finish v = b.at (a.put o.dst v) (.inRegion ops rest :: k) := by
    rw [Frame.finish_at, ho]; rfl
  rw [stepG_op ho hw, ← hfin]
  simp [stepG.apply, hr]

/-- The machine's step at a communication. -/
theorem step_comm {b : Frame} {k : List Item} {cs : List Frame} {cases : Array CommCase} {blocking : Bool} {shape : CommShape} (ho : ops[i]? = some o) (hw : Region.wanted o (yielded ops a.tmps) = true)
    (hr : (execOp a.eval o).run P w = .ok (.comm cases blocking shape) w') :
    step P (lone (b.at a (.inRegion ops (i :: rest) :: k)) cs w) =
      (communicate P { timers := #[], alone := none, slice := none } #[{ (default : Goroutine) with status := .finished }] 0
        { frame := b.at a (.inRegion ops (i :: rest) :: k), callers := cs, status := .running, dying := none } cases blocking shape w').1 := by
  have hg := stepG_op (P := P) (b := b) (k := k) (cs := cs) (w := w) (rest := rest) ho hw
  obtain ⟨es, hs⟩ : ∃ es, stepG P true { frame := b.at a (.inRegion ops (i :: rest) :: k), callers := cs, status := .running, dying := none } w =
      .comm { frame := b.at a (.inRegion ops (i :: rest) :: k), callers := cs, status := .running, dying := none } cases blocking shape w' es := by
    rw [hg]
    simp only [stepG.apply, Sem.runT_eq, hr, if_true, GStep.after]
    exact ⟨_, rfl⟩
  rw [step, stepT, move_lone]
  simp [runT, lone, Array.swapAt!, Array.swapAt, hs]

theorem nobody (c : Nat) (send : Bool) : partners #[{ (default : Goroutine) with status := .finished }] c send = [] := by simp [partners]

theorem fin_at {b : Frame} {k : List Item} (ho : ops[i]? = some o) (v : Value) : (b.at a (.inRegion ops (i :: rest) :: k)).finish v = b.at (a.put o.dst v) (.inRegion ops rest :: k) := by
  rw [Frame.finish_at, ho]; rfl

/-- A send into a buffer with room. -/
theorem inReg_send {c cap s r : Nat} {buf : Array Value} {z : Value} {tm : Bool} (ho : ops[i]? = some o) (hw : Region.wanted o (yielded ops a.tmps) = true)
    (hr : (execOp a.eval o).run P w = .ok (.comm #[{ chan := .chan (some c), send := some v, zero := z }] true .send) w)
    (hc : w.heap[c]? = some (.chan cap buf false s r tm)) (hroom : buf.size < cap)
    (h : InReg P ops Q rest (a.put o.dst undef) (putCh w c (.chan cap (buf.push v) false (s + 1) r tm))) : InReg P ops Q (i :: rest) a w := by
  intro b k cs
  obtain ⟨e, a', w'', hq, harr⟩ := h b k cs
  refine ⟨e, a', w'', hq, .of_steps (.one ?_) harr⟩
  rw [step_comm ho hw hr, ← fin_at ho]
  have hp := nobody c false
  simp [communicate, ways, hc, hp, hroom, choose, Sem.run, Question.forced, bind, Sem.bind, pure, Goroutine.finishComm, commResult, putCh, lone]

theorem res0 (c c' : Nat) (z z' v : Value) : commResult #[{ chan := .chan (some c), send := none, zero := z }, { chan := .chan (some c'), send := none, zero := z' }] .select 0 v true = .tuple #[goInt 0, .bool true, v, z'] := by
  simp [commResult, List.zipIdx_cons]
theorem res1 (c c' : Nat) (z z' v : Value) : commResult #[{ chan := .chan (some c), send := none, zero := z }, { chan := .chan (some c'), send := none, zero := z' }] .select 1 v true = .tuple #[goInt 1, .bool true, z, v] := by
  simp [commResult, List.zipIdx_cons]

/-- A select of two receives from open channels, without a default: one of the buffers, or both, hold something. -/
theorem inReg_select {c c' cap cap' s s' r r' : Nat} {buf buf' : Array Value} {z z' : Value} (ho : ops[i]? = some o) (hw : Region.wanted o (yielded ops a.tmps) = true)
    (hr : (execOp a.eval o).run P w = .ok (.comm #[{ chan := .chan (some c), send := none, zero := z }, { chan := .chan (some c'), send := none, zero := z' }] true .select) w)
    (hc : w.heap[c]? = some (.chan cap buf false s r false)) (hc' : w.heap[c']? = some (.chan cap' buf' false s' r' false)) (hsome : 0 < buf.size ∨ 0 < buf'.size)
    (h0 : 0 < buf.size → ∀ n, InReg P ops Q rest (a.put o.dst (.tuple #[goInt 0, .bool true, buf.getD 0 undef, z'])) (putCh (w.drewN n) c (.chan cap (buf.extract 1 buf.size) false s (r + 1) false)))
    (h1 : 0 < buf'.size → ∀ n, InReg P ops Q rest (a.put o.dst (.tuple #[goInt 1, .bool true, z, buf'.getD 0 undef])) (putCh (w.drewN n) c' (.chan cap' (buf'.extract 1 buf'.size) false s' (r' + 1) false))) :
    InReg P ops Q (i :: rest) a w := by
  intro b k cs
  have hp := fun c => nobody c true
  have hd : w.drew.heap[c]? = some (.chan cap buf false s r false) := hc
  have hd' : w.drew.heap[c']? = some (.chan cap' buf' false s' r' false) := hc'
  by_cases p0 : 0 < buf.size
  · by_cases p1 : 0 < buf'.size
    · rcases Nat.mod_two_eq_zero_or_one (w.tape w.drawn (.select 2)) with ht | ht
      · obtain ⟨e, a', w'', hq, harr⟩ := h0 p0 1 b k cs
        refine ⟨e, a', w'', hq, .of_steps (.one ?_) harr⟩
        rw [step_comm ho hw hr, ← fin_at ho, ← res0 c c' z]
        simp [communicate, ways, hc, hc', hp, p0, p1, choose, Sem.run, Question.forced, Question.cut, ht, hd, bind, Sem.bind, pure, Goroutine.finishComm, putCh, lone, World.drewN, List.zipIdx_cons]
      · obtain ⟨e, a', w'', hq, harr⟩ := h1 p1 1 b k cs
        refine ⟨e, a', w'', hq, .of_steps (.one ?_) harr⟩
        rw [step_comm ho hw hr, ← fin_at ho, ← res1 c c' z z']
        simp [communicate, ways, hc, hc', hp, p0, p1, choose, Sem.run, Question.forced, Question.cut, ht, hd', bind, Sem.bind, pure, Goroutine.finishComm, putCh, lone, World.drewN, List.zipIdx_cons]
    · obtain ⟨e, a', w'', hq, harr⟩ := h0 p0 0 b k cs
      refine ⟨e, a', w'', hq, .of_steps (.one ?_) harr⟩
      rw [step_comm ho hw hr, ← fin_at ho, ← res0 c c' z]
      simp [communicate, ways, hc, hc', hp, p0, p1, choose, Sem.run, Question.forced, bind, Sem.bind, pure, Goroutine.finishComm, putCh, lone, World.drewN, List.zipIdx_cons]
  · have p1 : 0 < buf'.size := hsome.resolve_left p0
    obtain ⟨e, a', w'', hq, harr⟩ := h1 p1 0 b k cs
    refine ⟨e, a', w'', hq, .of_steps (.one ?_) harr⟩
    rw [step_comm ho hw hr, ← fin_at ho, ← res1 c c' z z']
    simp [communicate, ways, hc, hc', hp, p0, p1, choose, Sem.run, Question.forced, bind, Sem.bind, pure, Goroutine.finishComm, putCh, lone, World.drewN, List.zipIdx_cons]

theorem wpList_append_run {l : List Oper} (hgd : o.guard = none) (s x : Operand) (t : TypeId) (ho : o.op = .call { callee := .builtin .append, args := #[s, x], argTypes := #[t, t] }) {u y : Value} (hs : a.eval s = u) (hx : a.eval x = y)
    (hr : (Builtin.append_ #[t, t] o.type #[u, y]).run P w = .ok v w') (h : wpList P ops Q l (a.put o.dst v) w') : wpList P ops Q (o :: l) a w :=
  wpList_plain hgd fun _ hK => by
    unfold Oper.wp execOp
    simp only [ho, resolve, invoke, builtin, Sem.run_bind, Sem.run_pure, Result.andThen_ok, List.map_toArray, List.map_cons, List.map_nil, hs, hx, hr]
    exact hK _ _ h

end
end Go.Proofs.Qxb6500380a
