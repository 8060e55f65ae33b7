/-
  No cell of these rows narrows 'for every input' (looked for: loops, veiled, ifaces, maps, wideKeys, modest, calm, conditions, laid).
  DERIVED. THE GIVEN ROWS OF THIS SEAT. 7 by the template 'for every input the law returns true; each argument reads behind the call as it read before'; 0 by the template 'total and deterministic' (their statements: Qxb6500610aTotals.lean).
  GIVEN WITH THE SEED: the statements are not yours to turn. If you find one false, say at which input.
  Laid BY PROGRAM, IN A SANDBOX (cutbox-rows.mjs): the forced cells as the released guide's own fill.sh prints them over the translation 4e97551b4eb93d47… (all of the seat's roots in one cut). By AI agents, Wed Nov 11 2026. No macro, syntax, notation, axiom, sorry.
-/
import Derived.Test.Qxb6500610aChecked
import GoSem.Claim
import GoSem.ClaimJoined
import GoSem.ClaimMapViews
import Derived.JoinedTies
import Derived.KernelRfl
namespace Go.Proofs.Qxb6500610a
/- THE CELL 'sum', in the pinned program and in every row, IS THE sha256 OF THE DUMP (.gsa) THAT Qxb6500610aProg.lean LOADS. Nothing in Lean hashes anything: it is a label: what it is worth is what the hold of that sum in a sandbox is worth. -/
noncomputable def Try.pinned : Pinned := { name := "qxb6500610a", sum := "4e97551b4eb93d4771c19628859d204f0301269977bb4d53b1942410e7035461", checked := Try.checked }
namespace Rows
def none {H : Type} : Left H := { results := [], args := [] }

/-- 'treelaw.EdgeUpPublishes': WHATEVER THE INPUT: true; the input reads as it did. -/
def edgeUpPublishesSpec : ChangeSpec := { name := "edgeUpPublishes", fn := fun _ => fun
  | [] => { results := [.lit (.bool true)], args := [] }
  | _ => none }
def edgeUpPublishesRow : OpenClaim := { program := "qxb6500610a", sum := "4e97551b4eb93d4771c19628859d204f0301269977bb4d53b1942410e7035461", func := "e2e/treelaw.EdgeUpPublishes", spec := "edgeUpPublishes", recurses := true, apart := false }
def EdgeUpPublishesSaid : Prop := edgeUpPublishesRow.holds Try.pinned (OpenSpec.ofChange edgeUpPublishesSpec)

/-- ITS FALSE NEIGHBOUR: 'it returns false'. Refute it at one input. -/
def edgeUpPublishesWrong : ChangeSpec := { name := "edgeUpPublishes", fn := fun _ => fun
  | [] => { results := [.lit (.bool false)], args := [] }
  | _ => none }
def EdgeUpPublishesWrongFalsely : Prop := edgeUpPublishesRow.holds Try.pinned (OpenSpec.ofChange edgeUpPublishesWrong)

/-- 'treelaw.EdgeGoPublishes': WHATEVER THE INPUT: true; the input reads as it did. -/
def edgeGoPublishesSpec : ChangeSpec := { name := "edgeGoPublishes", fn := fun _ => fun
  | [] => { results := [.lit (.bool true)], args := [] }
  | _ => none }
def edgeGoPublishesRow : OpenClaim := { program := "qxb6500610a", sum := "4e97551b4eb93d4771c19628859d204f0301269977bb4d53b1942410e7035461", func := "e2e/treelaw.EdgeGoPublishes", spec := "edgeGoPublishes", recurses := true, apart := false }
def EdgeGoPublishesSaid : Prop := edgeGoPublishesRow.holds Try.pinned (OpenSpec.ofChange edgeGoPublishesSpec)

/-- ITS FALSE NEIGHBOUR: 'it returns false'. Refute it at one input. -/
def edgeGoPublishesWrong : ChangeSpec := { name := "edgeGoPublishes", fn := fun _ => fun
  | [] => { results := [.lit (.bool false)], args := [] }
  | _ => none }
def EdgeGoPublishesWrongFalsely : Prop := edgeGoPublishesRow.holds Try.pinned (OpenSpec.ofChange edgeGoPublishesWrong)

/-- 'treelaw.EdgeJoinOrder': WHATEVER THE INPUT: true; the input reads as it did. -/
def edgeJoinOrderSpec : ChangeSpec := { name := "edgeJoinOrder", fn := fun _ => fun
  | [] => { results := [.lit (.bool true)], args := [] }
  | _ => none }
def edgeJoinOrderRow : OpenClaim := { program := "qxb6500610a", sum := "4e97551b4eb93d4771c19628859d204f0301269977bb4d53b1942410e7035461", func := "e2e/treelaw.EdgeJoinOrder", spec := "edgeJoinOrder", apart := false }
def EdgeJoinOrderSaid : Prop := edgeJoinOrderRow.holds Try.pinned (OpenSpec.ofChange edgeJoinOrderSpec)

/-- ITS FALSE NEIGHBOUR: 'it returns false'. Refute it at one input. -/
def edgeJoinOrderWrong : ChangeSpec := { name := "edgeJoinOrder", fn := fun _ => fun
  | [] => { results := [.lit (.bool false)], args := [] }
  | _ => none }
def EdgeJoinOrderWrongFalsely : Prop := edgeJoinOrderRow.holds Try.pinned (OpenSpec.ofChange edgeJoinOrderWrong)

/-- 'treelaw.EdgeNoRow': WHATEVER THE INPUT: true; the input reads as it did. -/
def edgeNoRowSpec : ChangeSpec := { name := "edgeNoRow", fn := fun _ => fun
  | [] => { results := [.lit (.bool true)], args := [] }
  | _ => none }
def edgeNoRowRow : OpenClaim := { program := "qxb6500610a", sum := "4e97551b4eb93d4771c19628859d204f0301269977bb4d53b1942410e7035461", func := "e2e/treelaw.EdgeNoRow", spec := "edgeNoRow", recurses := true, apart := false }
def EdgeNoRowSaid : Prop := edgeNoRowRow.holds Try.pinned (OpenSpec.ofChange edgeNoRowSpec)

/-- ITS FALSE NEIGHBOUR: 'it returns false'. Refute it at one input. -/
def edgeNoRowWrong : ChangeSpec := { name := "edgeNoRow", fn := fun _ => fun
  | [] => { results := [.lit (.bool false)], args := [] }
  | _ => none }
def EdgeNoRowWrongFalsely : Prop := edgeNoRowRow.holds Try.pinned (OpenSpec.ofChange edgeNoRowWrong)

/-- 'treelaw.EdgeSixteen': WHATEVER THE INPUT: true; the input reads as it did. -/
def edgeSixteenSpec : ChangeSpec := { name := "edgeSixteen", fn := fun _ => fun
  | [] => { results := [.lit (.bool true)], args := [] }
  | _ => none }
def edgeSixteenRow : OpenClaim := { program := "qxb6500610a", sum := "4e97551b4eb93d4771c19628859d204f0301269977bb4d53b1942410e7035461", func := "e2e/treelaw.EdgeSixteen", spec := "edgeSixteen", recurses := true, apart := false }
def EdgeSixteenSaid : Prop := edgeSixteenRow.holds Try.pinned (OpenSpec.ofChange edgeSixteenSpec)

/-- ITS FALSE NEIGHBOUR: 'it returns false'. Refute it at one input. -/
def edgeSixteenWrong : ChangeSpec := { name := "edgeSixteen", fn := fun _ => fun
  | [] => { results := [.lit (.bool false)], args := [] }
  | _ => none }
def EdgeSixteenWrongFalsely : Prop := edgeSixteenRow.holds Try.pinned (OpenSpec.ofChange edgeSixteenWrong)

/-- 'treelaw.EdgeHanded': WHATEVER THE INPUT: true; the input reads as it did. -/
def edgeHandedSpec : ChangeSpec := { name := "edgeHanded", fn := fun _ => fun
  | [] => { results := [.lit (.bool true)], args := [] }
  | _ => none }
def edgeHandedRow : OpenClaim := { program := "qxb6500610a", sum := "4e97551b4eb93d4771c19628859d204f0301269977bb4d53b1942410e7035461", func := "e2e/treelaw.EdgeHanded", spec := "edgeHanded", recurses := true, apart := false }
def EdgeHandedSaid : Prop := edgeHandedRow.holds Try.pinned (OpenSpec.ofChange edgeHandedSpec)

/-- ITS FALSE NEIGHBOUR: 'it returns false'. Refute it at one input. -/
def edgeHandedWrong : ChangeSpec := { name := "edgeHanded", fn := fun _ => fun
  | [] => { results := [.lit (.bool false)], args := [] }
  | _ => none }
def EdgeHandedWrongFalsely : Prop := edgeHandedRow.holds Try.pinned (OpenSpec.ofChange edgeHandedWrong)

/-- 'treelaw.EdgeBackToBack': WHATEVER THE INPUT: true; the input reads as it did. -/
def edgeBackToBackSpec : ChangeSpec := { name := "edgeBackToBack", fn := fun _ => fun
  | [] => { results := [.lit (.bool true)], args := [] }
  | _ => none }
def edgeBackToBackRow : OpenClaim := { program := "qxb6500610a", sum := "4e97551b4eb93d4771c19628859d204f0301269977bb4d53b1942410e7035461", func := "e2e/treelaw.EdgeBackToBack", spec := "edgeBackToBack", recurses := true, apart := false }
def EdgeBackToBackSaid : Prop := edgeBackToBackRow.holds Try.pinned (OpenSpec.ofChange edgeBackToBackSpec)

/-- ITS FALSE NEIGHBOUR: 'it returns false'. Refute it at one input. -/
def edgeBackToBackWrong : ChangeSpec := { name := "edgeBackToBack", fn := fun _ => fun
  | [] => { results := [.lit (.bool false)], args := [] }
  | _ => none }
def EdgeBackToBackWrongFalsely : Prop := edgeBackToBackRow.holds Try.pinned (OpenSpec.ofChange edgeBackToBackWrong)

end Rows
end Go.Proofs.Qxb6500610a
