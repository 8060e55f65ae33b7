/-
  No cell of these rows narrows 'for every input' (looked for: loops, veiled, ifaces, maps, wideKeys, modest, calm, conditions, laid).
  DERIVED. THE GIVEN ROWS OF THIS SEAT. 10 by the template 'for every input the law returns true; each argument reads behind the call as it read before'; 0 by the template 'total and deterministic' (their statements: Qxb6500606aTotals.lean).
  GIVEN WITH THE SEED: the statements are not yours to turn. If you find one false, say at which input.
  Laid BY PROGRAM, IN A SANDBOX (cutbox-rows.mjs): the forced cells as the released guide's own fill.sh prints them over the translation 3e3846f40cfabb1a… (all of the seat's roots in one cut). By AI agents, Wed Nov 11 2026. No macro, syntax, notation, axiom, sorry.
-/
import Derived.Test.Qxb6500606aChecked
import GoSem.Claim
import GoSem.ClaimJoined
import GoSem.ClaimMapViews
import Derived.JoinedTies
import Derived.KernelRfl
namespace Go.Proofs.Qxb6500606a
/- THE CELL 'sum', in the pinned program and in every row, IS THE sha256 OF THE DUMP (.gsa) THAT Qxb6500606aProg.lean LOADS. Nothing in Lean hashes anything: it is a label: what it is worth is what the hold of that sum in a sandbox is worth. -/
noncomputable def Try.pinned : Pinned := { name := "qxb6500606a", sum := "3e3846f40cfabb1acc6c7b18ba485b7a0e71f9cd0504365e5036cfaf41665b53", checked := Try.checked }
namespace Rows
def none {H : Type} : Left H := { results := [], args := [] }

/-- 'valslaw.Keeps': WHATEVER THE INPUT: true; the input reads as it did. -/
def keepsSpec : ChangeSpec := { name := "keeps", fn := fun _ => fun
  | [d] => { results := [.lit (.bool true)], args := [d] }
  | _ => none }
def keepsRow : OpenClaim := { program := "qxb6500606a", sum := "3e3846f40cfabb1acc6c7b18ba485b7a0e71f9cd0504365e5036cfaf41665b53", func := "e2e/valslaw.Keeps", spec := "keeps", unfollowed := true, recurses := true, apart := false }
def KeepsSaid : Prop := keepsRow.holds Try.pinned (OpenSpec.ofChange keepsSpec)

/-- ITS FALSE NEIGHBOUR: 'it returns false'. Refute it at one input. -/
def keepsWrong : ChangeSpec := { name := "keeps", fn := fun _ => fun
  | [d] => { results := [.lit (.bool false)], args := [d] }
  | _ => none }
def KeepsWrongFalsely : Prop := keepsRow.holds Try.pinned (OpenSpec.ofChange keepsWrong)

/-- 'valslaw.KeepsQuiet': WHATEVER THE INPUT: true; the input reads as it did. -/
def keepsQuietSpec : ChangeSpec := { name := "keepsQuiet", fn := fun _ => fun
  | [d] => { results := [.lit (.bool true)], args := [d] }
  | _ => none }
def keepsQuietRow : OpenClaim := { program := "qxb6500606a", sum := "3e3846f40cfabb1acc6c7b18ba485b7a0e71f9cd0504365e5036cfaf41665b53", func := "e2e/valslaw.KeepsQuiet", spec := "keepsQuiet", unfollowed := true, recurses := true, apart := false }
def KeepsQuietSaid : Prop := keepsQuietRow.holds Try.pinned (OpenSpec.ofChange keepsQuietSpec)

/-- ITS FALSE NEIGHBOUR: 'it returns false'. Refute it at one input. -/
def keepsQuietWrong : ChangeSpec := { name := "keepsQuiet", fn := fun _ => fun
  | [d] => { results := [.lit (.bool false)], args := [d] }
  | _ => none }
def KeepsQuietWrongFalsely : Prop := keepsQuietRow.holds Try.pinned (OpenSpec.ofChange keepsQuietWrong)

/-- 'valslaw.Apart': WHATEVER THE INPUT: true; the input reads as it did. -/
def apartSpec : ChangeSpec := { name := "apart", fn := fun _ => fun
  | [d] => { results := [.lit (.bool true)], args := [d] }
  | _ => none }
def apartRow : OpenClaim := { program := "qxb6500606a", sum := "3e3846f40cfabb1acc6c7b18ba485b7a0e71f9cd0504365e5036cfaf41665b53", func := "e2e/valslaw.Apart", spec := "apart", unfollowed := true, recurses := true, apart := false }
def ApartSaid : Prop := apartRow.holds Try.pinned (OpenSpec.ofChange apartSpec)

/-- ITS FALSE NEIGHBOUR: 'it returns false'. Refute it at one input. -/
def apartWrong : ChangeSpec := { name := "apart", fn := fun _ => fun
  | [d] => { results := [.lit (.bool false)], args := [d] }
  | _ => none }
def ApartWrongFalsely : Prop := apartRow.holds Try.pinned (OpenSpec.ofChange apartWrong)

/-- 'valslaw.Refines': WHATEVER THE INPUT: true; the input reads as it did. -/
def refinesSpec : ChangeSpec := { name := "refines", fn := fun _ => fun
  | [d] => { results := [.lit (.bool true)], args := [d] }
  | _ => none }
def refinesRow : OpenClaim := { program := "qxb6500606a", sum := "3e3846f40cfabb1acc6c7b18ba485b7a0e71f9cd0504365e5036cfaf41665b53", func := "e2e/valslaw.Refines", spec := "refines", unfollowed := true, recurses := true, apart := false }
def RefinesSaid : Prop := refinesRow.holds Try.pinned (OpenSpec.ofChange refinesSpec)

/-- ITS FALSE NEIGHBOUR: 'it returns false'. Refute it at one input. -/
def refinesWrong : ChangeSpec := { name := "refines", fn := fun _ => fun
  | [d] => { results := [.lit (.bool false)], args := [d] }
  | _ => none }
def RefinesWrongFalsely : Prop := refinesRow.holds Try.pinned (OpenSpec.ofChange refinesWrong)

/-- 'valslaw.RefinesQuiet': WHATEVER THE INPUT: true; the input reads as it did. -/
def refinesQuietSpec : ChangeSpec := { name := "refinesQuiet", fn := fun _ => fun
  | [d] => { results := [.lit (.bool true)], args := [d] }
  | _ => none }
def refinesQuietRow : OpenClaim := { program := "qxb6500606a", sum := "3e3846f40cfabb1acc6c7b18ba485b7a0e71f9cd0504365e5036cfaf41665b53", func := "e2e/valslaw.RefinesQuiet", spec := "refinesQuiet", unfollowed := true, recurses := true, apart := false }
def RefinesQuietSaid : Prop := refinesQuietRow.holds Try.pinned (OpenSpec.ofChange refinesQuietSpec)

/-- ITS FALSE NEIGHBOUR: 'it returns false'. Refute it at one input. -/
def refinesQuietWrong : ChangeSpec := { name := "refinesQuiet", fn := fun _ => fun
  | [d] => { results := [.lit (.bool false)], args := [d] }
  | _ => none }
def RefinesQuietWrongFalsely : Prop := refinesQuietRow.holds Try.pinned (OpenSpec.ofChange refinesQuietWrong)

/-- 'valslaw.EdgeBareNil': WHATEVER THE INPUT: true; the input reads as it did. -/
def edgeBareNilSpec : ChangeSpec := { name := "edgeBareNil", fn := fun _ => fun
  | [] => { results := [.lit (.bool true)], args := [] }
  | _ => none }
def edgeBareNilRow : OpenClaim := { program := "qxb6500606a", sum := "3e3846f40cfabb1acc6c7b18ba485b7a0e71f9cd0504365e5036cfaf41665b53", func := "e2e/valslaw.EdgeBareNil", spec := "edgeBareNil", unfollowed := true, recurses := true, apart := false }
def EdgeBareNilSaid : Prop := edgeBareNilRow.holds Try.pinned (OpenSpec.ofChange edgeBareNilSpec)

/-- ITS FALSE NEIGHBOUR: 'it returns false'. Refute it at one input. -/
def edgeBareNilWrong : ChangeSpec := { name := "edgeBareNil", fn := fun _ => fun
  | [] => { results := [.lit (.bool false)], args := [] }
  | _ => none }
def EdgeBareNilWrongFalsely : Prop := edgeBareNilRow.holds Try.pinned (OpenSpec.ofChange edgeBareNilWrong)

/-- 'valslaw.EdgeBareLacks': WHATEVER THE INPUT: true; the input reads as it did. -/
def edgeBareLacksSpec : ChangeSpec := { name := "edgeBareLacks", fn := fun _ => fun
  | [] => { results := [.lit (.bool true)], args := [] }
  | _ => none }
def edgeBareLacksRow : OpenClaim := { program := "qxb6500606a", sum := "3e3846f40cfabb1acc6c7b18ba485b7a0e71f9cd0504365e5036cfaf41665b53", func := "e2e/valslaw.EdgeBareLacks", spec := "edgeBareLacks", unfollowed := true, recurses := true, apart := false }
def EdgeBareLacksSaid : Prop := edgeBareLacksRow.holds Try.pinned (OpenSpec.ofChange edgeBareLacksSpec)

/-- ITS FALSE NEIGHBOUR: 'it returns false'. Refute it at one input. -/
def edgeBareLacksWrong : ChangeSpec := { name := "edgeBareLacks", fn := fun _ => fun
  | [] => { results := [.lit (.bool false)], args := [] }
  | _ => none }
def EdgeBareLacksWrongFalsely : Prop := edgeBareLacksRow.holds Try.pinned (OpenSpec.ofChange edgeBareLacksWrong)

/-- 'valslaw.EdgeBareHolds': WHATEVER THE INPUT: true; the input reads as it did. -/
def edgeBareHoldsSpec : ChangeSpec := { name := "edgeBareHolds", fn := fun _ => fun
  | [] => { results := [.lit (.bool true)], args := [] }
  | _ => none }
def edgeBareHoldsRow : OpenClaim := { program := "qxb6500606a", sum := "3e3846f40cfabb1acc6c7b18ba485b7a0e71f9cd0504365e5036cfaf41665b53", func := "e2e/valslaw.EdgeBareHolds", spec := "edgeBareHolds", unfollowed := true, recurses := true, apart := false }
def EdgeBareHoldsSaid : Prop := edgeBareHoldsRow.holds Try.pinned (OpenSpec.ofChange edgeBareHoldsSpec)

/-- ITS FALSE NEIGHBOUR: 'it returns false'. Refute it at one input. -/
def edgeBareHoldsWrong : ChangeSpec := { name := "edgeBareHolds", fn := fun _ => fun
  | [] => { results := [.lit (.bool false)], args := [] }
  | _ => none }
def EdgeBareHoldsWrongFalsely : Prop := edgeBareHoldsRow.holds Try.pinned (OpenSpec.ofChange edgeBareHoldsWrong)

/-- 'valslaw.EdgeOkNil': WHATEVER THE INPUT: true; the input reads as it did. -/
def edgeOkNilSpec : ChangeSpec := { name := "edgeOkNil", fn := fun _ => fun
  | [] => { results := [.lit (.bool true)], args := [] }
  | _ => none }
def edgeOkNilRow : OpenClaim := { program := "qxb6500606a", sum := "3e3846f40cfabb1acc6c7b18ba485b7a0e71f9cd0504365e5036cfaf41665b53", func := "e2e/valslaw.EdgeOkNil", spec := "edgeOkNil", unfollowed := true, recurses := true, apart := false }
def EdgeOkNilSaid : Prop := edgeOkNilRow.holds Try.pinned (OpenSpec.ofChange edgeOkNilSpec)

/-- ITS FALSE NEIGHBOUR: 'it returns false'. Refute it at one input. -/
def edgeOkNilWrong : ChangeSpec := { name := "edgeOkNil", fn := fun _ => fun
  | [] => { results := [.lit (.bool false)], args := [] }
  | _ => none }
def EdgeOkNilWrongFalsely : Prop := edgeOkNilRow.holds Try.pinned (OpenSpec.ofChange edgeOkNilWrong)

/-- 'valslaw.EdgeOkLacks': WHATEVER THE INPUT: true; the input reads as it did. -/
def edgeOkLacksSpec : ChangeSpec := { name := "edgeOkLacks", fn := fun _ => fun
  | [] => { results := [.lit (.bool true)], args := [] }
  | _ => none }
def edgeOkLacksRow : OpenClaim := { program := "qxb6500606a", sum := "3e3846f40cfabb1acc6c7b18ba485b7a0e71f9cd0504365e5036cfaf41665b53", func := "e2e/valslaw.EdgeOkLacks", spec := "edgeOkLacks", unfollowed := true, recurses := true, apart := false }
def EdgeOkLacksSaid : Prop := edgeOkLacksRow.holds Try.pinned (OpenSpec.ofChange edgeOkLacksSpec)

/-- ITS FALSE NEIGHBOUR: 'it returns false'. Refute it at one input. -/
def edgeOkLacksWrong : ChangeSpec := { name := "edgeOkLacks", fn := fun _ => fun
  | [] => { results := [.lit (.bool false)], args := [] }
  | _ => none }
def EdgeOkLacksWrongFalsely : Prop := edgeOkLacksRow.holds Try.pinned (OpenSpec.ofChange edgeOkLacksWrong)

end Rows
end Go.Proofs.Qxb6500606a
