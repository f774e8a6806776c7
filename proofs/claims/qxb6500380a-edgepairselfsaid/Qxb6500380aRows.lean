/-
  No cell of these rows narrows 'for every input' (looked for: loops, veiled, ifaces, maps, wideKeys, modest, calm, conditions, laid).
  DERIVED. THE GIVEN ROWS OF THIS SEAT. 6 by the template 'for every input the law returns true; each argument reads behind the call as it read before'; 0 by the template 'total and deterministic' (their statements: Qxb6500380aTotals.lean).
  GIVEN WITH THE SEED: the statements are not yours to turn. If you find one false, say at which input.
  Laid BY PROGRAM, IN A SANDBOX (cutbox-rows.mjs): the forced cells as the released guide's own fill.sh prints them over the translation 22e1895a77574086… (all of the seat's roots in one cut). By AI agents, Wed Nov 11 2026. No macro, syntax, notation, axiom, sorry.
-/
import Derived.Test.Qxb6500380aChecked
import GoSem.Claim
import GoSem.ClaimJoined
import GoSem.ClaimMapViews
import Derived.JoinedTies
import Derived.KernelRfl
namespace Go.Proofs.Qxb6500380a
/- THE CELL 'sum', in the pinned program and in every row, IS THE sha256 OF THE DUMP (.gsa) THAT Qxb6500380aProg.lean LOADS. Nothing in Lean hashes anything: it is a label: what it is worth is what the hold of that sum in a sandbox is worth. -/
noncomputable def Try.pinned : Pinned := { name := "qxb6500380a", sum := "22e1895a77574086f0de1f5128cc780599317eea5cab6e4c4c9d690d4712e146", checked := Try.checked }
namespace Rows
def none {H : Type} : Left H := { results := [], args := [] }

/-- 'muxlaw.EdgePairSelf': WHATEVER THE INPUT: true; the input reads as it did. -/
def edgePairSelfSpec : ChangeSpec := { name := "edgePairSelf", fn := fun _ => fun
  | [] => { results := [.lit (.bool true)], args := [] }
  | _ => none }
def edgePairSelfRow : OpenClaim := { program := "qxb6500380a", sum := "22e1895a77574086f0de1f5128cc780599317eea5cab6e4c4c9d690d4712e146", func := "e2e/muxlaw.EdgePairSelf", spec := "edgePairSelf", apart := false }
def EdgePairSelfSaid : Prop := edgePairSelfRow.holds Try.pinned (OpenSpec.ofChange edgePairSelfSpec)

/-- ITS FALSE NEIGHBOUR: 'it returns false'. Refute it at one input. -/
def edgePairSelfWrong : ChangeSpec := { name := "edgePairSelf", fn := fun _ => fun
  | [] => { results := [.lit (.bool false)], args := [] }
  | _ => none }
def EdgePairSelfWrongFalsely : Prop := edgePairSelfRow.holds Try.pinned (OpenSpec.ofChange edgePairSelfWrong)

/-- 'muxlaw.EdgePairEmpty': WHATEVER THE INPUT: true; the input reads as it did. -/
def edgePairEmptySpec : ChangeSpec := { name := "edgePairEmpty", fn := fun _ => fun
  | [] => { results := [.lit (.bool true)], args := [] }
  | _ => none }
def edgePairEmptyRow : OpenClaim := { program := "qxb6500380a", sum := "22e1895a77574086f0de1f5128cc780599317eea5cab6e4c4c9d690d4712e146", func := "e2e/muxlaw.EdgePairEmpty", spec := "edgePairEmpty", apart := false }
def EdgePairEmptySaid : Prop := edgePairEmptyRow.holds Try.pinned (OpenSpec.ofChange edgePairEmptySpec)

/-- ITS FALSE NEIGHBOUR: 'it returns false'. Refute it at one input. -/
def edgePairEmptyWrong : ChangeSpec := { name := "edgePairEmpty", fn := fun _ => fun
  | [] => { results := [.lit (.bool false)], args := [] }
  | _ => none }
def EdgePairEmptyWrongFalsely : Prop := edgePairEmptyRow.holds Try.pinned (OpenSpec.ofChange edgePairEmptyWrong)

/-- 'muxlaw.EdgePairRefuses': WHATEVER THE INPUT: true; the input reads as it did. -/
def edgePairRefusesSpec : ChangeSpec := { name := "edgePairRefuses", fn := fun _ => fun
  | [] => { results := [.lit (.bool true)], args := [] }
  | _ => none }
def edgePairRefusesRow : OpenClaim := { program := "qxb6500380a", sum := "22e1895a77574086f0de1f5128cc780599317eea5cab6e4c4c9d690d4712e146", func := "e2e/muxlaw.EdgePairRefuses", spec := "edgePairRefuses", apart := false }
def EdgePairRefusesSaid : Prop := edgePairRefusesRow.holds Try.pinned (OpenSpec.ofChange edgePairRefusesSpec)

/-- ITS FALSE NEIGHBOUR: 'it returns false'. Refute it at one input. -/
def edgePairRefusesWrong : ChangeSpec := { name := "edgePairRefuses", fn := fun _ => fun
  | [] => { results := [.lit (.bool false)], args := [] }
  | _ => none }
def EdgePairRefusesWrongFalsely : Prop := edgePairRefusesRow.holds Try.pinned (OpenSpec.ofChange edgePairRefusesWrong)

/-- 'muxlaw.EdgeTotalsFull': WHATEVER THE INPUT: true; the input reads as it did. -/
def edgeTotalsFullSpec : ChangeSpec := { name := "edgeTotalsFull", fn := fun _ => fun
  | [] => { results := [.lit (.bool true)], args := [] }
  | _ => none }
def edgeTotalsFullRow : OpenClaim := { program := "qxb6500380a", sum := "22e1895a77574086f0de1f5128cc780599317eea5cab6e4c4c9d690d4712e146", func := "e2e/muxlaw.EdgeTotalsFull", spec := "edgeTotalsFull", apart := false }
def EdgeTotalsFullSaid : Prop := edgeTotalsFullRow.holds Try.pinned (OpenSpec.ofChange edgeTotalsFullSpec)

/-- ITS FALSE NEIGHBOUR: 'it returns false'. Refute it at one input. -/
def edgeTotalsFullWrong : ChangeSpec := { name := "edgeTotalsFull", fn := fun _ => fun
  | [] => { results := [.lit (.bool false)], args := [] }
  | _ => none }
def EdgeTotalsFullWrongFalsely : Prop := edgeTotalsFullRow.holds Try.pinned (OpenSpec.ofChange edgeTotalsFullWrong)

/-- 'muxlaw.EdgeTotalsEmpty': WHATEVER THE INPUT: true; the input reads as it did. -/
def edgeTotalsEmptySpec : ChangeSpec := { name := "edgeTotalsEmpty", fn := fun _ => fun
  | [] => { results := [.lit (.bool true)], args := [] }
  | _ => none }
def edgeTotalsEmptyRow : OpenClaim := { program := "qxb6500380a", sum := "22e1895a77574086f0de1f5128cc780599317eea5cab6e4c4c9d690d4712e146", func := "e2e/muxlaw.EdgeTotalsEmpty", spec := "edgeTotalsEmpty", apart := false }
def EdgeTotalsEmptySaid : Prop := edgeTotalsEmptyRow.holds Try.pinned (OpenSpec.ofChange edgeTotalsEmptySpec)

/-- ITS FALSE NEIGHBOUR: 'it returns false'. Refute it at one input. -/
def edgeTotalsEmptyWrong : ChangeSpec := { name := "edgeTotalsEmpty", fn := fun _ => fun
  | [] => { results := [.lit (.bool false)], args := [] }
  | _ => none }
def EdgeTotalsEmptyWrongFalsely : Prop := edgeTotalsEmptyRow.holds Try.pinned (OpenSpec.ofChange edgeTotalsEmptyWrong)

/-- 'muxlaw.EdgeTotalsThenMerge': WHATEVER THE INPUT: true; the input reads as it did. -/
def edgeTotalsThenMergeSpec : ChangeSpec := { name := "edgeTotalsThenMerge", fn := fun _ => fun
  | [] => { results := [.lit (.bool true)], args := [] }
  | _ => none }
def edgeTotalsThenMergeRow : OpenClaim := { program := "qxb6500380a", sum := "22e1895a77574086f0de1f5128cc780599317eea5cab6e4c4c9d690d4712e146", func := "e2e/muxlaw.EdgeTotalsThenMerge", spec := "edgeTotalsThenMerge", apart := false }
def EdgeTotalsThenMergeSaid : Prop := edgeTotalsThenMergeRow.holds Try.pinned (OpenSpec.ofChange edgeTotalsThenMergeSpec)

/-- ITS FALSE NEIGHBOUR: 'it returns false'. Refute it at one input. -/
def edgeTotalsThenMergeWrong : ChangeSpec := { name := "edgeTotalsThenMerge", fn := fun _ => fun
  | [] => { results := [.lit (.bool false)], args := [] }
  | _ => none }
def EdgeTotalsThenMergeWrongFalsely : Prop := edgeTotalsThenMergeRow.holds Try.pinned (OpenSpec.ofChange edgeTotalsThenMergeWrong)

end Rows
end Go.Proofs.Qxb6500380a
