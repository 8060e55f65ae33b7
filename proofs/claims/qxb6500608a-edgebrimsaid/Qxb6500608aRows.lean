/-
  No cell of these rows narrows 'for every input' (looked for: loops, veiled, ifaces, maps, wideKeys, modest, calm, conditions, laid).
  DERIVED. THE GIVEN ROWS OF THIS SEAT. 10 by the template 'for every input the law returns true; each argument reads behind the call as it read before'; 0 by the template 'total and deterministic' (their statements: Qxb6500608aTotals.lean).
  GIVEN WITH THE SEED: the statements are not yours to turn. If you find one false, say at which input.
  Laid BY PROGRAM, IN A SANDBOX (cutbox-rows.mjs): the forced cells as the released guide's own fill.sh prints them over the translation eb15c6a8bf9faad7… (all of the seat's roots in one cut). By AI agents, Wed Nov 11 2026. No macro, syntax, notation, axiom, sorry.
-/
import Derived.Test.Qxb6500608aChecked
import GoSem.Claim
import GoSem.ClaimJoined
import GoSem.ClaimMapViews
import Derived.JoinedTies
import Derived.KernelRfl
namespace Go.Proofs.Qxb6500608a
/- THE CELL 'sum', in the pinned program and in every row, IS THE sha256 OF THE DUMP (.gsa) THAT Qxb6500608aProg.lean LOADS. Nothing in Lean hashes anything: it is a label: what it is worth is what the hold of that sum in a sandbox is worth. -/
noncomputable def Try.pinned : Pinned := { name := "qxb6500608a", sum := "eb15c6a8bf9faad7f10d550778fd7cffe7c4442bed8a9530ae5e0fe0a36ac2eb", checked := Try.checked }
namespace Rows
def none {H : Type} : Left H := { results := [], args := [] }

/-- 'valslaw.EdgeDispatch': WHATEVER THE INPUT: true; the input reads as it did. -/
def edgeDispatchSpec : ChangeSpec := { name := "edgeDispatch", fn := fun _ => fun
  | [] => { results := [.lit (.bool true)], args := [] }
  | _ => none }
def edgeDispatchRow : OpenClaim := { program := "qxb6500608a", sum := "eb15c6a8bf9faad7f10d550778fd7cffe7c4442bed8a9530ae5e0fe0a36ac2eb", func := "e2e/valslaw.EdgeDispatch", spec := "edgeDispatch", unfollowed := true, recurses := true, apart := false }
def EdgeDispatchSaid : Prop := edgeDispatchRow.holds Try.pinned (OpenSpec.ofChange edgeDispatchSpec)

/-- ITS FALSE NEIGHBOUR: 'it returns false'. Refute it at one input. -/
def edgeDispatchWrong : ChangeSpec := { name := "edgeDispatch", fn := fun _ => fun
  | [] => { results := [.lit (.bool false)], args := [] }
  | _ => none }
def EdgeDispatchWrongFalsely : Prop := edgeDispatchRow.holds Try.pinned (OpenSpec.ofChange edgeDispatchWrong)

/-- 'valslaw.EdgeApart': WHATEVER THE INPUT: true; the input reads as it did. -/
def edgeApartSpec : ChangeSpec := { name := "edgeApart", fn := fun _ => fun
  | [] => { results := [.lit (.bool true)], args := [] }
  | _ => none }
def edgeApartRow : OpenClaim := { program := "qxb6500608a", sum := "eb15c6a8bf9faad7f10d550778fd7cffe7c4442bed8a9530ae5e0fe0a36ac2eb", func := "e2e/valslaw.EdgeApart", spec := "edgeApart", unfollowed := true, recurses := true, apart := false }
def EdgeApartSaid : Prop := edgeApartRow.holds Try.pinned (OpenSpec.ofChange edgeApartSpec)

/-- ITS FALSE NEIGHBOUR: 'it returns false'. Refute it at one input. -/
def edgeApartWrong : ChangeSpec := { name := "edgeApart", fn := fun _ => fun
  | [] => { results := [.lit (.bool false)], args := [] }
  | _ => none }
def EdgeApartWrongFalsely : Prop := edgeApartRow.holds Try.pinned (OpenSpec.ofChange edgeApartWrong)

/-- 'valslaw.EdgeBrim': WHATEVER THE INPUT: true; the input reads as it did. -/
def edgeBrimSpec : ChangeSpec := { name := "edgeBrim", fn := fun _ => fun
  | [] => { results := [.lit (.bool true)], args := [] }
  | _ => none }
def edgeBrimRow : OpenClaim := { program := "qxb6500608a", sum := "eb15c6a8bf9faad7f10d550778fd7cffe7c4442bed8a9530ae5e0fe0a36ac2eb", func := "e2e/valslaw.EdgeBrim", spec := "edgeBrim", unfollowed := true, recurses := true, apart := false }
def EdgeBrimSaid : Prop := edgeBrimRow.holds Try.pinned (OpenSpec.ofChange edgeBrimSpec)

/-- ITS FALSE NEIGHBOUR: 'it returns false'. Refute it at one input. -/
def edgeBrimWrong : ChangeSpec := { name := "edgeBrim", fn := fun _ => fun
  | [] => { results := [.lit (.bool false)], args := [] }
  | _ => none }
def EdgeBrimWrongFalsely : Prop := edgeBrimRow.holds Try.pinned (OpenSpec.ofChange edgeBrimWrong)

/-- 'valslaw.EdgeBareReturn': WHATEVER THE INPUT: true; the input reads as it did. -/
def edgeBareReturnSpec : ChangeSpec := { name := "edgeBareReturn", fn := fun _ => fun
  | [] => { results := [.lit (.bool true)], args := [] }
  | _ => none }
def edgeBareReturnRow : OpenClaim := { program := "qxb6500608a", sum := "eb15c6a8bf9faad7f10d550778fd7cffe7c4442bed8a9530ae5e0fe0a36ac2eb", func := "e2e/valslaw.EdgeBareReturn", spec := "edgeBareReturn", unfollowed := true, recurses := true, apart := false }
def EdgeBareReturnSaid : Prop := edgeBareReturnRow.holds Try.pinned (OpenSpec.ofChange edgeBareReturnSpec)

/-- ITS FALSE NEIGHBOUR: 'it returns false'. Refute it at one input. -/
def edgeBareReturnWrong : ChangeSpec := { name := "edgeBareReturn", fn := fun _ => fun
  | [] => { results := [.lit (.bool false)], args := [] }
  | _ => none }
def EdgeBareReturnWrongFalsely : Prop := edgeBareReturnRow.holds Try.pinned (OpenSpec.ofChange edgeBareReturnWrong)

/-- 'valslaw.EdgeRangeOnce': WHATEVER THE INPUT: true; the input reads as it did. -/
def edgeRangeOnceSpec : ChangeSpec := { name := "edgeRangeOnce", fn := fun _ => fun
  | [] => { results := [.lit (.bool true)], args := [] }
  | _ => none }
def edgeRangeOnceRow : OpenClaim := { program := "qxb6500608a", sum := "eb15c6a8bf9faad7f10d550778fd7cffe7c4442bed8a9530ae5e0fe0a36ac2eb", func := "e2e/valslaw.EdgeRangeOnce", spec := "edgeRangeOnce", unfollowed := true, recurses := true, apart := false }
def EdgeRangeOnceSaid : Prop := edgeRangeOnceRow.holds Try.pinned (OpenSpec.ofChange edgeRangeOnceSpec)

/-- ITS FALSE NEIGHBOUR: 'it returns false'. Refute it at one input. -/
def edgeRangeOnceWrong : ChangeSpec := { name := "edgeRangeOnce", fn := fun _ => fun
  | [] => { results := [.lit (.bool false)], args := [] }
  | _ => none }
def EdgeRangeOnceWrongFalsely : Prop := edgeRangeOnceRow.holds Try.pinned (OpenSpec.ofChange edgeRangeOnceWrong)

/-- 'valslaw.EdgeDivPanics': WHATEVER THE INPUT: true; the input reads as it did. -/
def edgeDivPanicsSpec : ChangeSpec := { name := "edgeDivPanics", fn := fun _ => fun
  | [] => { results := [.lit (.bool true)], args := [] }
  | _ => none }
def edgeDivPanicsRow : OpenClaim := { program := "qxb6500608a", sum := "eb15c6a8bf9faad7f10d550778fd7cffe7c4442bed8a9530ae5e0fe0a36ac2eb", func := "e2e/valslaw.EdgeDivPanics", spec := "edgeDivPanics", unfollowed := true, recurses := true, apart := false }
def EdgeDivPanicsSaid : Prop := edgeDivPanicsRow.holds Try.pinned (OpenSpec.ofChange edgeDivPanicsSpec)

/-- ITS FALSE NEIGHBOUR: 'it returns false'. Refute it at one input. -/
def edgeDivPanicsWrong : ChangeSpec := { name := "edgeDivPanics", fn := fun _ => fun
  | [] => { results := [.lit (.bool false)], args := [] }
  | _ => none }
def EdgeDivPanicsWrongFalsely : Prop := edgeDivPanicsRow.holds Try.pinned (OpenSpec.ofChange edgeDivPanicsWrong)

/-- 'valslaw.EdgeDeferQuiet': WHATEVER THE INPUT: true; the input reads as it did. -/
def edgeDeferQuietSpec : ChangeSpec := { name := "edgeDeferQuiet", fn := fun _ => fun
  | [] => { results := [.lit (.bool true)], args := [] }
  | _ => none }
def edgeDeferQuietRow : OpenClaim := { program := "qxb6500608a", sum := "eb15c6a8bf9faad7f10d550778fd7cffe7c4442bed8a9530ae5e0fe0a36ac2eb", func := "e2e/valslaw.EdgeDeferQuiet", spec := "edgeDeferQuiet", unfollowed := true, recurses := true, apart := false }
def EdgeDeferQuietSaid : Prop := edgeDeferQuietRow.holds Try.pinned (OpenSpec.ofChange edgeDeferQuietSpec)

/-- ITS FALSE NEIGHBOUR: 'it returns false'. Refute it at one input. -/
def edgeDeferQuietWrong : ChangeSpec := { name := "edgeDeferQuiet", fn := fun _ => fun
  | [] => { results := [.lit (.bool false)], args := [] }
  | _ => none }
def EdgeDeferQuietWrongFalsely : Prop := edgeDeferQuietRow.holds Try.pinned (OpenSpec.ofChange edgeDeferQuietWrong)

/-- 'valslaw.EdgeUnlooked': WHATEVER THE INPUT: true; the input reads as it did. -/
def edgeUnlookedSpec : ChangeSpec := { name := "edgeUnlooked", fn := fun _ => fun
  | [] => { results := [.lit (.bool true)], args := [] }
  | _ => none }
def edgeUnlookedRow : OpenClaim := { program := "qxb6500608a", sum := "eb15c6a8bf9faad7f10d550778fd7cffe7c4442bed8a9530ae5e0fe0a36ac2eb", func := "e2e/valslaw.EdgeUnlooked", spec := "edgeUnlooked", unfollowed := true, recurses := true, apart := false }
def EdgeUnlookedSaid : Prop := edgeUnlookedRow.holds Try.pinned (OpenSpec.ofChange edgeUnlookedSpec)

/-- ITS FALSE NEIGHBOUR: 'it returns false'. Refute it at one input. -/
def edgeUnlookedWrong : ChangeSpec := { name := "edgeUnlooked", fn := fun _ => fun
  | [] => { results := [.lit (.bool false)], args := [] }
  | _ => none }
def EdgeUnlookedWrongFalsely : Prop := edgeUnlookedRow.holds Try.pinned (OpenSpec.ofChange edgeUnlookedWrong)

/-- 'valslaw.EdgeSwitchBreak': WHATEVER THE INPUT: true; the input reads as it did. -/
def edgeSwitchBreakSpec : ChangeSpec := { name := "edgeSwitchBreak", fn := fun _ => fun
  | [] => { results := [.lit (.bool true)], args := [] }
  | _ => none }
def edgeSwitchBreakRow : OpenClaim := { program := "qxb6500608a", sum := "eb15c6a8bf9faad7f10d550778fd7cffe7c4442bed8a9530ae5e0fe0a36ac2eb", func := "e2e/valslaw.EdgeSwitchBreak", spec := "edgeSwitchBreak", unfollowed := true, recurses := true, apart := false }
def EdgeSwitchBreakSaid : Prop := edgeSwitchBreakRow.holds Try.pinned (OpenSpec.ofChange edgeSwitchBreakSpec)

/-- ITS FALSE NEIGHBOUR: 'it returns false'. Refute it at one input. -/
def edgeSwitchBreakWrong : ChangeSpec := { name := "edgeSwitchBreak", fn := fun _ => fun
  | [] => { results := [.lit (.bool false)], args := [] }
  | _ => none }
def EdgeSwitchBreakWrongFalsely : Prop := edgeSwitchBreakRow.holds Try.pinned (OpenSpec.ofChange edgeSwitchBreakWrong)

/-- 'valslaw.EdgeNegLeast': WHATEVER THE INPUT: true; the input reads as it did. -/
def edgeNegLeastSpec : ChangeSpec := { name := "edgeNegLeast", fn := fun _ => fun
  | [] => { results := [.lit (.bool true)], args := [] }
  | _ => none }
def edgeNegLeastRow : OpenClaim := { program := "qxb6500608a", sum := "eb15c6a8bf9faad7f10d550778fd7cffe7c4442bed8a9530ae5e0fe0a36ac2eb", func := "e2e/valslaw.EdgeNegLeast", spec := "edgeNegLeast", unfollowed := true, recurses := true, apart := false }
def EdgeNegLeastSaid : Prop := edgeNegLeastRow.holds Try.pinned (OpenSpec.ofChange edgeNegLeastSpec)

/-- ITS FALSE NEIGHBOUR: 'it returns false'. Refute it at one input. -/
def edgeNegLeastWrong : ChangeSpec := { name := "edgeNegLeast", fn := fun _ => fun
  | [] => { results := [.lit (.bool false)], args := [] }
  | _ => none }
def EdgeNegLeastWrongFalsely : Prop := edgeNegLeastRow.holds Try.pinned (OpenSpec.ofChange edgeNegLeastWrong)

end Rows
end Go.Proofs.Qxb6500608a
