/-
  No cell of these rows narrows 'for every input' (looked for: loops, veiled, ifaces, maps, wideKeys, modest, calm, conditions, laid).
  DERIVED. THE GIVEN ROWS OF THIS SEAT. 10 by the template 'for every input the law returns true; each argument reads behind the call as it read before'; 0 by the template 'total and deterministic' (their statements: Qxb6500607aTotals.lean).
  GIVEN WITH THE SEED: the statements are not yours to turn. If you find one false, say at which input.
  Laid BY PROGRAM, IN A SANDBOX (cutbox-rows.mjs): the forced cells as the released guide's own fill.sh prints them over the translation 061900fc55f019cd… (all of the seat's roots in one cut). By AI agents, Wed Nov 11 2026. No macro, syntax, notation, axiom, sorry.
-/
import Derived.Test.Qxb6500607aChecked
import GoSem.Claim
import GoSem.ClaimJoined
import GoSem.ClaimMapViews
import Derived.JoinedTies
import Derived.KernelRfl
namespace Go.Proofs.Qxb6500607a
/- THE CELL 'sum', in the pinned program and in every row, IS THE sha256 OF THE DUMP (.gsa) THAT Qxb6500607aProg.lean LOADS. Nothing in Lean hashes anything: it is a label: what it is worth is what the hold of that sum in a sandbox is worth. -/
noncomputable def Try.pinned : Pinned := { name := "qxb6500607a", sum := "061900fc55f019cddd625a420072de1052c1094af2225080f89ab43b2faeac7b", checked := Try.checked }
namespace Rows
def none {H : Type} : Left H := { results := [], args := [] }

/-- 'valslaw.EdgeTypedNil': WHATEVER THE INPUT: true; the input reads as it did. -/
def edgeTypedNilSpec : ChangeSpec := { name := "edgeTypedNil", fn := fun _ => fun
  | [] => { results := [.lit (.bool true)], args := [] }
  | _ => none }
def edgeTypedNilRow : OpenClaim := { program := "qxb6500607a", sum := "061900fc55f019cddd625a420072de1052c1094af2225080f89ab43b2faeac7b", func := "e2e/valslaw.EdgeTypedNil", spec := "edgeTypedNil", unfollowed := true, recurses := true, apart := false }
def EdgeTypedNilSaid : Prop := edgeTypedNilRow.holds Try.pinned (OpenSpec.ofChange edgeTypedNilSpec)

/-- ITS FALSE NEIGHBOUR: 'it returns false'. Refute it at one input. -/
def edgeTypedNilWrong : ChangeSpec := { name := "edgeTypedNil", fn := fun _ => fun
  | [] => { results := [.lit (.bool false)], args := [] }
  | _ => none }
def EdgeTypedNilWrongFalsely : Prop := edgeTypedNilRow.holds Try.pinned (OpenSpec.ofChange edgeTypedNilWrong)

/-- 'valslaw.EdgeTypedNilFirst': WHATEVER THE INPUT: true; the input reads as it did. -/
def edgeTypedNilFirstSpec : ChangeSpec := { name := "edgeTypedNilFirst", fn := fun _ => fun
  | [] => { results := [.lit (.bool true)], args := [] }
  | _ => none }
def edgeTypedNilFirstRow : OpenClaim := { program := "qxb6500607a", sum := "061900fc55f019cddd625a420072de1052c1094af2225080f89ab43b2faeac7b", func := "e2e/valslaw.EdgeTypedNilFirst", spec := "edgeTypedNilFirst", unfollowed := true, recurses := true, apart := false }
def EdgeTypedNilFirstSaid : Prop := edgeTypedNilFirstRow.holds Try.pinned (OpenSpec.ofChange edgeTypedNilFirstSpec)

/-- ITS FALSE NEIGHBOUR: 'it returns false'. Refute it at one input. -/
def edgeTypedNilFirstWrong : ChangeSpec := { name := "edgeTypedNilFirst", fn := fun _ => fun
  | [] => { results := [.lit (.bool false)], args := [] }
  | _ => none }
def EdgeTypedNilFirstWrongFalsely : Prop := edgeTypedNilFirstRow.holds Try.pinned (OpenSpec.ofChange edgeTypedNilFirstWrong)

/-- 'valslaw.EdgeBreak': WHATEVER THE INPUT: true; the input reads as it did. -/
def edgeBreakSpec : ChangeSpec := { name := "edgeBreak", fn := fun _ => fun
  | [] => { results := [.lit (.bool true)], args := [] }
  | _ => none }
def edgeBreakRow : OpenClaim := { program := "qxb6500607a", sum := "061900fc55f019cddd625a420072de1052c1094af2225080f89ab43b2faeac7b", func := "e2e/valslaw.EdgeBreak", spec := "edgeBreak", unfollowed := true, recurses := true, apart := false }
def EdgeBreakSaid : Prop := edgeBreakRow.holds Try.pinned (OpenSpec.ofChange edgeBreakSpec)

/-- ITS FALSE NEIGHBOUR: 'it returns false'. Refute it at one input. -/
def edgeBreakWrong : ChangeSpec := { name := "edgeBreak", fn := fun _ => fun
  | [] => { results := [.lit (.bool false)], args := [] }
  | _ => none }
def EdgeBreakWrongFalsely : Prop := edgeBreakRow.holds Try.pinned (OpenSpec.ofChange edgeBreakWrong)

/-- 'valslaw.EdgeReturnWithin': WHATEVER THE INPUT: true; the input reads as it did. -/
def edgeReturnWithinSpec : ChangeSpec := { name := "edgeReturnWithin", fn := fun _ => fun
  | [] => { results := [.lit (.bool true)], args := [] }
  | _ => none }
def edgeReturnWithinRow : OpenClaim := { program := "qxb6500607a", sum := "061900fc55f019cddd625a420072de1052c1094af2225080f89ab43b2faeac7b", func := "e2e/valslaw.EdgeReturnWithin", spec := "edgeReturnWithin", unfollowed := true, recurses := true, apart := false }
def EdgeReturnWithinSaid : Prop := edgeReturnWithinRow.holds Try.pinned (OpenSpec.ofChange edgeReturnWithinSpec)

/-- ITS FALSE NEIGHBOUR: 'it returns false'. Refute it at one input. -/
def edgeReturnWithinWrong : ChangeSpec := { name := "edgeReturnWithin", fn := fun _ => fun
  | [] => { results := [.lit (.bool false)], args := [] }
  | _ => none }
def EdgeReturnWithinWrongFalsely : Prop := edgeReturnWithinRow.holds Try.pinned (OpenSpec.ofChange edgeReturnWithinWrong)

/-- 'valslaw.EdgeWalk': WHATEVER THE INPUT: true; the input reads as it did. -/
def edgeWalkSpec : ChangeSpec := { name := "edgeWalk", fn := fun _ => fun
  | [] => { results := [.lit (.bool true)], args := [] }
  | _ => none }
def edgeWalkRow : OpenClaim := { program := "qxb6500607a", sum := "061900fc55f019cddd625a420072de1052c1094af2225080f89ab43b2faeac7b", func := "e2e/valslaw.EdgeWalk", spec := "edgeWalk", unfollowed := true, recurses := true, apart := false }
def EdgeWalkSaid : Prop := edgeWalkRow.holds Try.pinned (OpenSpec.ofChange edgeWalkSpec)

/-- ITS FALSE NEIGHBOUR: 'it returns false'. Refute it at one input. -/
def edgeWalkWrong : ChangeSpec := { name := "edgeWalk", fn := fun _ => fun
  | [] => { results := [.lit (.bool false)], args := [] }
  | _ => none }
def EdgeWalkWrongFalsely : Prop := edgeWalkRow.holds Try.pinned (OpenSpec.ofChange edgeWalkWrong)

/-- 'valslaw.EdgePanicThroughRange': WHATEVER THE INPUT: true; the input reads as it did. -/
def edgePanicThroughRangeSpec : ChangeSpec := { name := "edgePanicThroughRange", fn := fun _ => fun
  | [] => { results := [.lit (.bool true)], args := [] }
  | _ => none }
def edgePanicThroughRangeRow : OpenClaim := { program := "qxb6500607a", sum := "061900fc55f019cddd625a420072de1052c1094af2225080f89ab43b2faeac7b", func := "e2e/valslaw.EdgePanicThroughRange", spec := "edgePanicThroughRange", unfollowed := true, recurses := true, apart := false }
def EdgePanicThroughRangeSaid : Prop := edgePanicThroughRangeRow.holds Try.pinned (OpenSpec.ofChange edgePanicThroughRangeSpec)

/-- ITS FALSE NEIGHBOUR: 'it returns false'. Refute it at one input. -/
def edgePanicThroughRangeWrong : ChangeSpec := { name := "edgePanicThroughRange", fn := fun _ => fun
  | [] => { results := [.lit (.bool false)], args := [] }
  | _ => none }
def EdgePanicThroughRangeWrongFalsely : Prop := edgePanicThroughRangeRow.holds Try.pinned (OpenSpec.ofChange edgePanicThroughRangeWrong)

/-- 'valslaw.EdgeOwnPanic': WHATEVER THE INPUT: true; the input reads as it did. -/
def edgeOwnPanicSpec : ChangeSpec := { name := "edgeOwnPanic", fn := fun _ => fun
  | [] => { results := [.lit (.bool true)], args := [] }
  | _ => none }
def edgeOwnPanicRow : OpenClaim := { program := "qxb6500607a", sum := "061900fc55f019cddd625a420072de1052c1094af2225080f89ab43b2faeac7b", func := "e2e/valslaw.EdgeOwnPanic", spec := "edgeOwnPanic", unfollowed := true, recurses := true, apart := false }
def EdgeOwnPanicSaid : Prop := edgeOwnPanicRow.holds Try.pinned (OpenSpec.ofChange edgeOwnPanicSpec)

/-- ITS FALSE NEIGHBOUR: 'it returns false'. Refute it at one input. -/
def edgeOwnPanicWrong : ChangeSpec := { name := "edgeOwnPanic", fn := fun _ => fun
  | [] => { results := [.lit (.bool false)], args := [] }
  | _ => none }
def EdgeOwnPanicWrongFalsely : Prop := edgeOwnPanicRow.holds Try.pinned (OpenSpec.ofChange edgeOwnPanicWrong)

/-- 'valslaw.EdgeNilCell': WHATEVER THE INPUT: true; the input reads as it did. -/
def edgeNilCellSpec : ChangeSpec := { name := "edgeNilCell", fn := fun _ => fun
  | [] => { results := [.lit (.bool true)], args := [] }
  | _ => none }
def edgeNilCellRow : OpenClaim := { program := "qxb6500607a", sum := "061900fc55f019cddd625a420072de1052c1094af2225080f89ab43b2faeac7b", func := "e2e/valslaw.EdgeNilCell", spec := "edgeNilCell", unfollowed := true, recurses := true, apart := false }
def EdgeNilCellSaid : Prop := edgeNilCellRow.holds Try.pinned (OpenSpec.ofChange edgeNilCellSpec)

/-- ITS FALSE NEIGHBOUR: 'it returns false'. Refute it at one input. -/
def edgeNilCellWrong : ChangeSpec := { name := "edgeNilCell", fn := fun _ => fun
  | [] => { results := [.lit (.bool false)], args := [] }
  | _ => none }
def EdgeNilCellWrongFalsely : Prop := edgeNilCellRow.holds Try.pinned (OpenSpec.ofChange edgeNilCellWrong)

/-- 'valslaw.EdgeUnbound': WHATEVER THE INPUT: true; the input reads as it did. -/
def edgeUnboundSpec : ChangeSpec := { name := "edgeUnbound", fn := fun _ => fun
  | [] => { results := [.lit (.bool true)], args := [] }
  | _ => none }
def edgeUnboundRow : OpenClaim := { program := "qxb6500607a", sum := "061900fc55f019cddd625a420072de1052c1094af2225080f89ab43b2faeac7b", func := "e2e/valslaw.EdgeUnbound", spec := "edgeUnbound", unfollowed := true, recurses := true, apart := false }
def EdgeUnboundSaid : Prop := edgeUnboundRow.holds Try.pinned (OpenSpec.ofChange edgeUnboundSpec)

/-- ITS FALSE NEIGHBOUR: 'it returns false'. Refute it at one input. -/
def edgeUnboundWrong : ChangeSpec := { name := "edgeUnbound", fn := fun _ => fun
  | [] => { results := [.lit (.bool false)], args := [] }
  | _ => none }
def EdgeUnboundWrongFalsely : Prop := edgeUnboundRow.holds Try.pinned (OpenSpec.ofChange edgeUnboundWrong)

/-- 'valslaw.EdgeNewApart': WHATEVER THE INPUT: true; the input reads as it did. -/
def edgeNewApartSpec : ChangeSpec := { name := "edgeNewApart", fn := fun _ => fun
  | [] => { results := [.lit (.bool true)], args := [] }
  | _ => none }
def edgeNewApartRow : OpenClaim := { program := "qxb6500607a", sum := "061900fc55f019cddd625a420072de1052c1094af2225080f89ab43b2faeac7b", func := "e2e/valslaw.EdgeNewApart", spec := "edgeNewApart", unfollowed := true, recurses := true, apart := false }
def EdgeNewApartSaid : Prop := edgeNewApartRow.holds Try.pinned (OpenSpec.ofChange edgeNewApartSpec)

/-- ITS FALSE NEIGHBOUR: 'it returns false'. Refute it at one input. -/
def edgeNewApartWrong : ChangeSpec := { name := "edgeNewApart", fn := fun _ => fun
  | [] => { results := [.lit (.bool false)], args := [] }
  | _ => none }
def EdgeNewApartWrongFalsely : Prop := edgeNewApartRow.holds Try.pinned (OpenSpec.ofChange edgeNewApartWrong)

end Rows
end Go.Proofs.Qxb6500607a
