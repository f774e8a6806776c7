import Derived.RangeFuncLeaves
import Derived.RangeFuncSeq
import Derived.RangeFuncCalls
import Derived.WalkKit
/-! A round of a range over a function THAT MAY PANIC, at the wide fence: beside Derived/RangeFuncIn.lean's 'roundIn_of_wpIn', whose arms for a panic ask 'False'. -/
namespace Go.Proofs.Qxb6500382a
open Go.RowKit
variable {n : Nat} {P : Program}

/-- What is asked at a round's end, a panic taken in. -/
def roundEnd (P : Program) (l : Nat) (R : Ending → World → Prop) : Exit → Act → World → Prop
  | .normal, _, w => ∃ v w', (Instr.endRound l none).run P w = .ok v w' ∧ R (.returned v) w'
  | .ret, _, w => ∃ v w', (Instr.endRound l (some .ret)).run P w = .ok v w' ∧ R (.returned v) w'
  | .exit id, _, w => ∃ v w', (Instr.endRound l (some (.exit id))).run P w = .ok v w' ∧ R (.returned v) w'
  | .goto t, _, w => ∃ v w', (Instr.endRound l (some (.goto t))).run P w = .ok v w' ∧ R (.returned v) w'
  | .panic chain, a, w => a.defers = [] ∧ R (.panicked chain) w
  | .outgrown, _, _ => False

theorem step_beginRound_panic {b : Frame} {a : Act} {k : List Item} {cs : List Frame} {w w' : World} {l : Nat} {v : Value} (hb : b.roundOf = some l) (hr : (Instr.beginRound l).run P w = .halt (.panic v) w') :
    step P (lone (b.atR a (.beginRound :: k)) cs w) = .next (lone { b.atR a (.beginRound :: k) with mode := .panicking [{ v, recovered := false }] } cs w') :=
  step_lone_go (by simp [stepG, stepG.exec, stepG.apply, Frame.atR, hb, Sem.runT_eq, hr, Result.andThen, Frame.raise])

theorem round_of {l : Nat} {f : FuncId} {tmps : Array Value} {assign body : Code} {w : World} {R : Ending → World → Prop} (hf : ∃ fn, P.funcs[f]? = some fn)
    (h : assign.wpIn (Fence.wide.inRound l) n P (Exit.then (fun a₁ w₁ =>
        (∃ w₂, (Instr.beginRound l).run P w₁ = .ok () w₂ ∧ body.wpIn (Fence.wide.inRound l) n P (roundEnd P l R) a₁ w₂) ∨
        (∃ v w₂, (Instr.beginRound l).run P w₁ = .halt (.panic v) w₂ ∧ a₁.defers = [] ∧ R (.panicked [{ v, recovered := false }]) w₂)) (fun _ _ _ => False))
      { tmps := tmps, defers := [] } w) :
    RoundIn Fence.wide n P l f tmps assign body w R := by
  refine ⟨trivial, fun c cs hr => ?_⟩
  let b : Frame := { (default : Frame) with fn := f, kind := .normal, roundOf := some l }
  have hb0 : Frame.round l f tmps assign body .normal = b.atR { tmps := tmps, defers := [] } [.code assign, .beginRound, .code body] := by
    simp [Frame.round, Frame.atR, b]
  have hr' : (Fence.wide.inRound l).room ((c :: cs).length + 1 + n) := hr
  have hF' : (Fence.wide.inRound l).fn b.fn := trivial
  obtain ⟨e, a₁, w₁, hq, harr⟩ := h b [.beginRound, .code body] (c :: cs) rfl hF' hr'
  rw [← hb0] at harr
  have leave : ∀ (a : Act) (todo : List Item) (chain : List PanicEntry) (w3 : World), a.defers = [] →
      StepsIn (Machine.fenced P (Fence.wide.inRound l)) P (lone { b.atR a todo with mode := .panicking chain } (c :: cs) w3) (lone (c.raise chain) cs w3) := by
    intro a todo chain w3 hd
    have hl : ({ b.atR a todo with mode := .panicking chain } : Frame).leaving P w3 (.panicked chain) := ⟨rfl, hd, hf⟩
    exact .one (fenced_leaving (n := n) hF' hr' hl) (step_leave_panicked hl)
  cases e with
  | normal =>
    rcases hq with ⟨w₂, hbr, hbody⟩ | ⟨v, w₂, hbr, hd, hR⟩
    · have s1 : StepsIn (Machine.fenced P (Fence.wide.inRound l)) P (lone (b.atR a₁ [.beginRound, .code body]) (c :: cs) w₁) (lone (b.atR a₁ [.code body]) (c :: cs) w₂) :=
        .one (fenced_calm (fr := b.atR a₁ [.beginRound, .code body]) hF' hr' rfl) (stepR_beginRound rfl hbr)
      obtain ⟨e₂, a₂, w₃, hq₂, harr₂⟩ := hbody b [] (c :: cs) rfl hF' hr'
      cases e₂ with
      | normal =>
        obtain ⟨v, w₄, hend, hR⟩ := hq₂
        exact ⟨.returned v, w₄, hR, (StepsIn.trans harr s1).trans (StepsIn.trans harr₂ (.one (fenced_calm (fr := b.atR a₂ []) hF' hr' rfl) (stepR_round_end rfl rfl hend)))⟩
      | ret =>
        obtain ⟨v, w₄, hend, hR⟩ := hq₂
        obtain ⟨k₁, hs⟩ := harr₂.2 rfl
        exact ⟨.returned v, w₄, hR, (StepsIn.trans harr s1).trans (StepsIn.trans hs (.one (fenced_calm (fr := b.atR a₂ (.code .ret :: k₁)) hF' hr' rfl) (stepR_round_ret rfl rfl hend)))⟩
      | exit id =>
        obtain ⟨v, w₄, hend, hR⟩ := hq₂
        obtain ⟨k₁, hk, hs⟩ := harr₂.2 rfl rfl
        exact ⟨.returned v, w₄, hR, (StepsIn.trans harr s1).trans (StepsIn.trans hs (.one (fenced_calm (fr := b.atR a₂ (.code (.exit id) :: k₁)) hF' hr' rfl) (stepR_round_exit rfl rfl hk hend)))⟩
      | goto t =>
        obtain ⟨v, w₄, hend, hR⟩ := hq₂
        obtain ⟨k₁, hk, hs⟩ := harr₂.2 rfl rfl
        exact ⟨.returned v, w₄, hR, (StepsIn.trans harr s1).trans (StepsIn.trans hs (.one (fenced_calm (fr := b.atR a₂ (.code (.goto t) :: k₁)) hF' hr' rfl) (stepR_round_goto rfl rfl hk hend)))⟩
      | panic chain =>
        obtain ⟨hd, hR⟩ := hq₂
        obtain ⟨todo, hs⟩ := harr₂
        exact ⟨.panicked chain, w₃, hR, (StepsIn.trans harr s1).trans (StepsIn.trans hs (leave a₂ todo chain w₃ hd))⟩
      | outgrown => exact hq₂.elim
    · have s1 : StepsIn (Machine.fenced P (Fence.wide.inRound l)) P (lone (b.atR a₁ [.beginRound, .code body]) (c :: cs) w₁) (lone { b.atR a₁ [.beginRound, .code body] with mode := .panicking [{ v, recovered := false }] } (c :: cs) w₂) :=
        .one (fenced_calm (fr := b.atR a₁ [.beginRound, .code body]) hF' hr' rfl) (step_beginRound_panic rfl hbr)
      exact ⟨_, w₂, hR, (StepsIn.trans harr s1).trans (leave a₁ _ _ w₂ hd)⟩
  | exit id => exact hq.elim
  | goto t => exact hq.elim
  | ret => exact hq.elim
  | panic chain => exact hq.elim
  | outgrown => exact hq.elim

/-- What is asked at the end of a round whose record r was ready. -/
def endQ (l : Nat) (r : Loop) (R : Ending → World → Prop) : Exit → Act → World → Prop
  | .normal, _, w => w.heap[l]? = some (.loop { r with state := .busy }) ∧ R (.returned (.bool true)) (w.putObj l (.loop { r with state := .ready, pending := none }))
  | .exit id, _, w => w.heap[l]? = some (.loop { r with state := .busy }) ∧ R (.returned (.bool false)) (w.putObj l (.loop { r with state := .done, pending := some (.exit id) }))
  | .panic chain, a, w => a.defers = [] ∧ R (.panicked chain) w
  | _, _, _ => False

/-- yield, the record being ready. -/
theorem yield_ready {l : Nat} {r : Loop} {args : Array Value} {W : World} {R : Ending → World → Prop} (hL : W.heap[l]? = some (.loop r)) (hst : r.state = .ready) (hs : args.size = r.params.size) (hf : ∃ fn, P.funcs[r.fn]? = some fn) (a₁ : Act)
    (hassign : ∀ K : Act → World → Prop, K a₁ W → r.assign.wpIn (Fence.wide.inRound l) n P (Exit.then K (fun _ _ _ => False)) { tmps := (r.params.zip args).foldl (fun tmps (t, a) => tmps.setIfInBounds t a) r.tmps, defers := [] } W)
    (hbody : r.body.wpIn (Fence.wide.inRound l) n P (endQ l r R) a₁ (W.putObj l (.loop { r with state := .busy }))) : YieldAt Fence.wide n P l args W R := by
  refine ⟨r.fn, _, r.assign, r.body, run_yield hL hs, round_of hf ?_⟩
  refine hassign _ (.inl ⟨_, run_beginRound hL hst, wpIn_mono hbody ?_⟩)
  intro e a w hq
  cases e with
  | normal => exact ⟨_, _, run_endRound none hq.1, hq.2⟩
  | exit id => exact ⟨_, _, run_endRound (some (.exit id)) hq.1, hq.2⟩
  | panic chain => exact hq
  | ret => exact hq.elim
  | goto t => exact hq.elim
  | outgrown => exact hq.elim

/-- yield, a round having said 'no more': a run-time error. -/
theorem yield_done {l : Nat} {r : Loop} {args : Array Value} {W : World} {R : Ending → World → Prop} {v : Value} (hL : W.heap[l]? = some (.loop r)) (hs : args.size = r.params.size) (hf : ∃ fn, P.funcs[r.fn]? = some fn) (a₁ : Act) (hd : a₁.defers = [])
    (hassign : ∀ K : Act → World → Prop, K a₁ W → r.assign.wpIn (Fence.wide.inRound l) n P (Exit.then K (fun _ _ _ => False)) { tmps := (r.params.zip args).foldl (fun tmps (t, a) => tmps.setIfInBounds t a) r.tmps, defers := [] } W)
    (hbr : (Instr.beginRound l).run P W = .halt (.panic v) (W.putObj l (.loop { r with state := .busy })))
    (hR : R (.panicked [{ v, recovered := false }]) (W.putObj l (.loop { r with state := .busy }))) : YieldAt Fence.wide n P l args W R :=
  ⟨r.fn, _, r.assign, r.body, run_yield hL hs, round_of hf (hassign _ (.inr ⟨v, _, hbr, hd, hR⟩))⟩
end Go.Proofs.Qxb6500382a
