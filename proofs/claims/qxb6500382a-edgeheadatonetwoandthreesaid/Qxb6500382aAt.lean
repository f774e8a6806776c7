import Derived.Test.Qxb6500382aRound
import Derived.DefersIn
/-! The walk of a code IN A FRAME OF A NAMED FUNCTION, at the wide fence: 'wpIn_rangeFunc' speaks of every function of the fence, but a round that throws must know that its function is there. -/
namespace Go.Proofs.Qxb6500382a
open Go.RowKit
variable {P : Program} {f : FuncId}

def wpAt (f : FuncId) (P : Program) (c : Code) (Q : Exit → Act → World → Prop) (a : Act) (w : World) : Prop :=
  ∀ (b : Frame) (k : List Item) (cs : List Frame), b.roundOf = none → b.fn = f →
    ∃ e a' w', Q e a' w' ∧ ArrivesIn (Machine.fenced P Fence.wide) P (lone (b.atR a (.code c :: k)) cs w) b k cs e a' w'

theorem wide_at {c : Code} {Q : Exit → Act → World → Prop} {a : Act} {w : World} {n : Nat} (h : c.wpIn Fence.wide n P Q a w) : wpAt f P c Q a w :=
  fun b k cs hro _ => h b k cs hro trivial (room_wide _)

theorem wpAt_seq {x y : Code} {Q : Exit → Act → World → Prop} {a : Act} {w : World} (h : wpAt f P x (Exit.then (wpAt f P y Q) Q) a w) : wpAt f P (Code.seq x y) Q a w := by
  intro b k cs hro hb
  have hF : Fence.wide.fn b.fn := trivial
  have hr : Fence.wide.room (cs.length + 1 + 0) := room_wide _
  have h0 : (lone (b.atR a (.code (.seq x y) :: k)) cs w).fenced P Fence.wide := fenced_calm hF hr rfl
  obtain ⟨e, a₁, w₁, hq, harr⟩ := h b (.code y :: k) cs hro hb
  cases e with
  | normal =>
    obtain ⟨e₂, a₂, w₂, hq₂, harr₂⟩ := hq b k cs hro hb
    exact ⟨e₂, a₂, w₂, hq₂, .of_steps (.head h0 stepR_seq harr) harr₂⟩
  | exit id => exact ⟨_, a₁, w₁, hq, .of_steps (.one h0 stepR_seq) (.pass (x := .code y) rfl (fun _ _ => .inl (by simp)) harr)⟩
  | goto l => exact ⟨_, a₁, w₁, hq, .of_steps (.one h0 stepR_seq) (.pass (x := .code y) rfl (fun _ _ => .inl (by simp)) harr)⟩
  | ret => exact ⟨_, a₁, w₁, hq, .of_steps (.one h0 stepR_seq) (.pass (x := .code y) rfl (fun _ _ => .inl (by simp)) harr)⟩
  | panic ch => exact ⟨_, a₁, w₁, hq, .of_steps (.one h0 stepR_seq) (.pass (x := .code y) rfl (fun _ _ => .inl (by simp)) harr)⟩
  | outgrown => exact ⟨_, a₁, w₁, hq, .of_steps (.one h0 stepR_seq) (.pass (x := .code y) rfl (fun _ _ => .inl (by simp)) harr)⟩

/-- The first part by the plain walk, the rest unseen. -/
theorem wpAt_head {x y : Code} {Q : Exit → Act → World → Prop} {a : Act} {w : World} (n : Nat) (h : ∀ K : Act → World → Prop, (∀ a w, wpAt f P y Q a w → K a w) → x.wpIn Fence.wide n P (Exit.then K (fun _ _ _ => False)) a w) :
    wpAt f P (Code.seq x y) Q a w :=
  wpAt_seq (wide_at (wpIn_mono (h _ fun _ _ h => h) fun e a w hq => by cases e <;> first | exact hq | exact hq.elim))

/-- A range over a function that throws. -/
theorem wpAt_range {id : Nat} {g : Operand} {ps : Array Tmp} {assign body : Code} {Q : Exit → Act → World → Prop} {a : Act} {w w₁ : World} {l : Nat} {mark : List Deferred} {d : Deferred} {fc : FuncId} {args : Array Value}
    (he : (Instr.enterLoop f a.tmps ps assign body none).run P w = .ok (l, mark) w₁)
    (hres : (resolve a.eval (rangeCall g l) 0).run P w₁ = .ok d w₁) (hinv : (invoke d.target d.args).run P w₁ = .ok (.enter fc args) w₁)
    (hc : Calls P fc args w₁ fun e w₃ => ∃ ch, e = .panicked ch ∧ Q (.panic ch) { a with defers := mark ++ a.defers } w₃) :
    wpAt f P (Code.block id (Code.rangeFunc g ps assign body)) Q a w := by
  intro b k cs hro hb
  subst hb
  have hF : Fence.wide.fn b.fn := trivial
  have hr : ∀ m, Fence.wide.room m := fun m => room_wide _
  have h0 : (lone (b.atR a (.code (.block id (.rangeFunc g ps assign body)) :: k)) cs w).fenced P Fence.wide := fenced_calm (n := 0) hF (hr _) rfl
  have h1 : (lone (b.atR a (.code (.rangeFunc g ps assign body) :: .inBlock id :: k)) cs w).fenced P Fence.wide := fenced_lone (.inl hF) (fun f' _ => trivial) (hr _)
  rw [← hro] at he
  have henter := stepR_rangeFunc (P := P) (b := b) (a := a) (k := .inBlock id :: k) (cs := cs) (w := w) he hres hinv
  obtain ⟨e, w₃, fr, ⟨ch, rfl, hQ⟩, hsteps, hfn, hleave⟩ := hc (b.atR { a with defers := mark ++ a.defers } (.inRangeFunc l :: .inBlock id :: k) :: cs)
  have hl : (lone fr (b.atR { a with defers := mark ++ a.defers } (.inRangeFunc l :: .inBlock id :: k) :: cs) w₃).fenced P Fence.wide := fenced_leaving (n := 0) trivial (hr _) hleave
  refine ⟨.panic ch, _, w₃, hQ, .inRangeFunc l :: .inBlock id :: k, .head h0 stepR_block (.head h1 henter (StepsIn.trans (stepsIn_wide.2 hsteps) (.one hl ?_)))⟩
  rw [← Frame.raise_atR]; exact step_leave_panicked hleave

/-- How a frame leaves: marks of loops, deferred calls that return. -/
def LeavesW (P : Program) (fn : Func) (tmps : Array Value) (R : Ending → World → Prop) : List Deferred → FrameMode → World → Prop
  | [], u, w => LeavesIn Fence.wide 5 P fn tmps R [] u w
  | d :: ds, u, w => u ≠ .run ∧
      ((∃ r w', d.target = .collected r ∧ (Instr.takeDeferred r).run P w = .ok [] w' ∧ LeavesW P fn tmps R ds u w') ∨
       (∃ fv cap f args, d.target = .fn fv cap ∧ (invoke d.target d.args).run P w = .ok (.enter f args) w ∧ CallsD P f args u w fun e u' w' => ∃ v, e = .returned v ∧ LeavesW P fn tmps R ds (settle u') w'))

theorem leaves_stepsW {fn : Func} {tmps : Array Value} {R : Ending → World → Prop} : ∀ (ds : List Deferred) (u : FrameMode) (w : World) (fr : Frame)
    (cs : List Frame), fr.mode = u → fr.defers = ds → fr.tmps = tmps → P.funcs[fr.fn]? = some fn → fr.kind = .normal → LeavesW P fn tmps R ds u w →
    ∃ e w' fr', R e w' ∧ ComesIn (Machine.fenced P Fence.wide) P (lone fr cs w) (lone fr' cs w') e ∧ fr'.fn = fr.fn ∧ fr'.leaving P w' e := by
  intro ds
  induction ds with
  | nil => exact fun u w fr cs hu hd ht hf hk h => leaves_stepsIn (n := 5) [] u w fr cs hu hd ht hf hk trivial (room_wide _) h
  | cons d ds ih =>
    intro u w fr cs hu hd ht hf hk h
    obtain ⟨hrun, h⟩ := h
    have hb : Fence.wide.fn fr.fn := trivial
    have hroom : ∀ m, Fence.wide.room m := fun m => room_wide _
    rcases h with ⟨r, w', htar, htake, hrest⟩ | ⟨fv, cap, f, args, htar, hinv, hcall⟩
    · have h1 := step_collected (cs := cs) (hu ▸ hrun) hd htar htake
      have i1 : (lone fr cs w).fenced P Fence.wide := fenced_out (n := 5) hb (hroom _) (hu ▸ hrun) hd (fun g hg => trivial)
      obtain ⟨e', w'', fr', hR', hs', hfn', hl'⟩ := ih u w' { fr with defers := [] ++ ds } cs hu rfl ht hf hk hrest
      exact ⟨e', w'', fr', hR', ComesIn.of_steps (.one i1 h1) hs', hfn', hl'⟩
    · have h1 := step_defer (cs := cs) (hu ▸ hrun) hd htar hinv
      have i1 : (lone fr cs w).fenced P Fence.wide := fenced_out (n := 5) hb (hroom _) (hu ▸ hrun) hd (fun g hg => trivial)
      obtain ⟨e, u', w', frX, ⟨v, rfl, hR⟩, hsteps, hkX, hgo⟩ := hcall { fr with defers := ds } cs hu
      have i2 : (lone frX ({ { fr with defers := ds } with mode := u' } :: cs) w').fenced P Fence.wide := fenced_going (n := 5) trivial (hroom _) hgo
      have h2 := step_going_returned (c := { { fr with defers := ds } with mode := u' }) (cs := cs) hkX hgo
      obtain ⟨e', w'', fr', hR', hs', hfn', hl'⟩ := ih (settle u') w' { { { fr with defers := ds } with mode := u' } with mode := settle u' } cs rfl rfl ht hf hk hR
      exact ⟨e', w'', fr', hR', ComesIn.of_steps (.head i1 h1 (StepsIn.trans (stepsIn_wide.2 hsteps) (.one i2 h2))) hs', hfn', hl'⟩

/-- What a body must achieve. -/
def postW (P : Program) (fn : Func) (R : Ending → World → Prop) : Exit → Act → World → Prop
  | .panic chain, a, w => LeavesW P fn a.tmps R a.defers (.panicking chain) w
  | .ret, a, w => LeavesW P fn a.tmps R a.defers .returning w
  | _, _, _ => False

/-- A function's contract. -/
theorem calls_at {fn : Func} {c : Code} {args : Array Value} {w : World} {R : Ending → World → Prop} (hf : P.funcs[f]? = some fn) (hb : fn.body = some c)
    (h : wpAt f P c (postW P fn R) { tmps := args ++ Array.replicate (fn.ntmps - args.size) undef, defers := [] } w) : Calls P f args w R := by
  refine (callsIn_wide (n := 5)).1 ⟨trivial, fun cs _ => ?_⟩
  let b : Frame := { (default : Frame) with fn := f, kind := .normal, roundOf := none }
  have henter : Frame.enter P f args .normal =
      b.atR { tmps := args ++ Array.replicate (fn.ntmps - args.size) undef, defers := [] } [.code c] := by
    simp [Frame.enter, Frame.atR, hf, hb, b]
  obtain ⟨e, a', w', hq, harr⟩ := h b [] cs rfl rfl
  rw [← henter] at harr
  cases e with
  | normal => exact hq.elim
  | ret =>
    obtain ⟨todo, hs₀⟩ := harr.1 rfl
    obtain ⟨e', w'', fr', hR, hs, hfn, hl⟩ := leaves_stepsW a'.defers .returning w' { b.atR a' todo with mode := .returning } cs rfl rfl rfl hf rfl hq
    exact ⟨e', w'', fr', hR, ComesIn.of_steps hs₀ hs, hfn, hl⟩
  | panic chain =>
    obtain ⟨todo, hs₀⟩ := harr
    obtain ⟨e', w'', fr', hR, hs, hfn, hl⟩ := leaves_stepsW a'.defers (.panicking chain) w' { b.atR a' todo with mode := .panicking chain } cs rfl rfl rfl hf rfl hq
    exact ⟨e', w'', fr', hR, ComesIn.of_steps hs₀ hs, hfn, hl⟩
  | exit id => exact hq.elim
  | goto l => exact hq.elim
  | outgrown => exact hq.elim
end Go.Proofs.Qxb6500382a
