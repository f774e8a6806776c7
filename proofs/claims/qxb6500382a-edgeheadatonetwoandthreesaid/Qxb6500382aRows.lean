/-
  No cell of these rows narrows 'for every input' (looked for: loops, veiled, ifaces, maps, wideKeys, modest, calm, conditions, laid).
  DERIVED. THE GIVEN ROWS OF THIS SEAT. 4 by the template 'for every input the law returns true; each argument reads behind the call as it read before'; 0 by the template 'total and deterministic' (their statements: Qxb6500382aTotals.lean).
  GIVEN WITH THE SEED: the statements are not yours to turn. If you find one false, say at which input.
  Laid BY PROGRAM, IN A SANDBOX (cutbox-rows.mjs): the forced cells as the released guide's own fill.sh prints them over the translation abff7fc6520e1c7d… (all of the seat's roots in one cut). By AI agents, Wed Nov 11 2026. No macro, syntax, notation, axiom, sorry.
-/
import Derived.Test.Qxb6500382aChecked
import GoSem.Claim
import GoSem.ClaimJoined
import GoSem.ClaimMapViews
import Derived.JoinedTies
import Derived.KernelRfl
namespace Go.Proofs.Qxb6500382a
/- THE CELL 'sum', in the pinned program and in every row, IS THE sha256 OF THE DUMP (.gsa) THAT Qxb6500382aProg.lean LOADS. Nothing in Lean hashes anything: it is a label: what it is worth is what the hold of that sum in a sandbox is worth. -/
noncomputable def Try.pinned : Pinned := { name := "qxb6500382a", sum := "abff7fc6520e1c7d9bbd14b235ea94430c008a0bffc51bcf765bba6b03092510", checked := Try.checked }
namespace Rows
def none {H : Type} : Left H := { results := [], args := [] }

/-- 'mergelaw.EdgeDeafUnderAPlainRange': WHATEVER THE INPUT: true; the input reads as it did. -/
def edgeDeafUnderAPlainRangeSpec : ChangeSpec := { name := "edgeDeafUnderAPlainRange", fn := fun _ => fun
  | [] => { results := [.lit (.bool true)], args := [] }
  | _ => none }
def edgeDeafUnderAPlainRangeRow : OpenClaim := { program := "qxb6500382a", sum := "abff7fc6520e1c7d9bbd14b235ea94430c008a0bffc51bcf765bba6b03092510", func := "e2e/mergelaw.EdgeDeafUnderAPlainRange", spec := "edgeDeafUnderAPlainRange", unfollowed := true, recurses := true, apart := false }
def EdgeDeafUnderAPlainRangeSaid : Prop := edgeDeafUnderAPlainRangeRow.holds Try.pinned (OpenSpec.ofChange edgeDeafUnderAPlainRangeSpec)

/-- ITS FALSE NEIGHBOUR: 'it returns false'. Refute it at one input. -/
def edgeDeafUnderAPlainRangeWrong : ChangeSpec := { name := "edgeDeafUnderAPlainRange", fn := fun _ => fun
  | [] => { results := [.lit (.bool false)], args := [] }
  | _ => none }
def EdgeDeafUnderAPlainRangeWrongFalsely : Prop := edgeDeafUnderAPlainRangeRow.holds Try.pinned (OpenSpec.ofChange edgeDeafUnderAPlainRangeWrong)

/-- 'mergelaw.EdgeBreakUnderAPlainRange': WHATEVER THE INPUT: true; the input reads as it did. -/
def edgeBreakUnderAPlainRangeSpec : ChangeSpec := { name := "edgeBreakUnderAPlainRange", fn := fun _ => fun
  | [] => { results := [.lit (.bool true)], args := [] }
  | _ => none }
def edgeBreakUnderAPlainRangeRow : OpenClaim := { program := "qxb6500382a", sum := "abff7fc6520e1c7d9bbd14b235ea94430c008a0bffc51bcf765bba6b03092510", func := "e2e/mergelaw.EdgeBreakUnderAPlainRange", spec := "edgeBreakUnderAPlainRange", unfollowed := true, recurses := true, apart := false }
def EdgeBreakUnderAPlainRangeSaid : Prop := edgeBreakUnderAPlainRangeRow.holds Try.pinned (OpenSpec.ofChange edgeBreakUnderAPlainRangeSpec)

/-- ITS FALSE NEIGHBOUR: 'it returns false'. Refute it at one input. -/
def edgeBreakUnderAPlainRangeWrong : ChangeSpec := { name := "edgeBreakUnderAPlainRange", fn := fun _ => fun
  | [] => { results := [.lit (.bool false)], args := [] }
  | _ => none }
def EdgeBreakUnderAPlainRangeWrongFalsely : Prop := edgeBreakUnderAPlainRangeRow.holds Try.pinned (OpenSpec.ofChange edgeBreakUnderAPlainRangeWrong)

/-- 'mergelaw.EdgeDeafAndSourUnderAPlainRange': WHATEVER THE INPUT: true; the input reads as it did. -/
def edgeDeafAndSourUnderAPlainRangeSpec : ChangeSpec := { name := "edgeDeafAndSourUnderAPlainRange", fn := fun _ => fun
  | [] => { results := [.lit (.bool true)], args := [] }
  | _ => none }
def edgeDeafAndSourUnderAPlainRangeRow : OpenClaim := { program := "qxb6500382a", sum := "abff7fc6520e1c7d9bbd14b235ea94430c008a0bffc51bcf765bba6b03092510", func := "e2e/mergelaw.EdgeDeafAndSourUnderAPlainRange", spec := "edgeDeafAndSourUnderAPlainRange", unfollowed := true, recurses := true, apart := false }
def EdgeDeafAndSourUnderAPlainRangeSaid : Prop := edgeDeafAndSourUnderAPlainRangeRow.holds Try.pinned (OpenSpec.ofChange edgeDeafAndSourUnderAPlainRangeSpec)

/-- ITS FALSE NEIGHBOUR: 'it returns false'. Refute it at one input. -/
def edgeDeafAndSourUnderAPlainRangeWrong : ChangeSpec := { name := "edgeDeafAndSourUnderAPlainRange", fn := fun _ => fun
  | [] => { results := [.lit (.bool false)], args := [] }
  | _ => none }
def EdgeDeafAndSourUnderAPlainRangeWrongFalsely : Prop := edgeDeafAndSourUnderAPlainRangeRow.holds Try.pinned (OpenSpec.ofChange edgeDeafAndSourUnderAPlainRangeWrong)

/-- 'mergelaw.EdgeHeadAtOneTwoAndThree': WHATEVER THE INPUT: true; the input reads as it did. -/
def edgeHeadAtOneTwoAndThreeSpec : ChangeSpec := { name := "edgeHeadAtOneTwoAndThree", fn := fun _ => fun
  | [] => { results := [.lit (.bool true)], args := [] }
  | _ => none }
def edgeHeadAtOneTwoAndThreeRow : OpenClaim := { program := "qxb6500382a", sum := "abff7fc6520e1c7d9bbd14b235ea94430c008a0bffc51bcf765bba6b03092510", func := "e2e/mergelaw.EdgeHeadAtOneTwoAndThree", spec := "edgeHeadAtOneTwoAndThree", unfollowed := true, recurses := true, apart := false }
def EdgeHeadAtOneTwoAndThreeSaid : Prop := edgeHeadAtOneTwoAndThreeRow.holds Try.pinned (OpenSpec.ofChange edgeHeadAtOneTwoAndThreeSpec)

/-- ITS FALSE NEIGHBOUR: 'it returns false'. Refute it at one input. -/
def edgeHeadAtOneTwoAndThreeWrong : ChangeSpec := { name := "edgeHeadAtOneTwoAndThree", fn := fun _ => fun
  | [] => { results := [.lit (.bool false)], args := [] }
  | _ => none }
def EdgeHeadAtOneTwoAndThreeWrongFalsely : Prop := edgeHeadAtOneTwoAndThreeRow.holds Try.pinned (OpenSpec.ofChange edgeHeadAtOneTwoAndThreeWrong)

end Rows
end Go.Proofs.Qxb6500382a
