/-
  THE WORDS, PLAINLY: what each does to a list of values (the bottom first). First: Go's Errno.
-/
import Derived.Test.Qxb6500606aVal
namespace Go.Proofs.Qxb6500606a

def kind : V → Nat
  | .nil => 3
  | .node t _ _ _ _ => t
def num : V → Int
  | .nil => 0
  | .node _ _ a _ _ => a.1
def bytes : V → List UInt8
  | .nil => []
  | .node _ _ a _ _ => a.2
def left : V → V
  | .nil => .nil
  | .node _ _ _ l _ => l
def right : V → V
  | .nil => .nil
  | .node _ _ _ _ r => r
/-- l's elements, then b. -/
def appL : V → V → V
  | .nil, b => b
  | .node _ _ _ l r, b => vcons l (appL r b)
/-- Wrapped to 64 bits, signed. -/
def wr (n : Int) : Int := (n + 9223372036854775808) % 18446744073709551616 - 9223372036854775808
def sumV (a b : V) : V := if kind a = 1 then vint (wr (num a + num b)) else if kind a = 2 then vstr (bytes a ++ bytes b) else appL a b
/-- a + b: its error and the sum. -/
def plusF (a b : V) : Int × V :=
  if kind a = 4 then (5, .nil) else if kind b ≠ kind a then (6, .nil) else if 30 < (text (sumV a b)).length then (7, .nil) else (0, sumV a b)
/-- What a walk meets. -/
def parts (v : V) : List V := if kind v = 4 then [left v, right v] else elems v
def lenV (v : V) : Nat := if kind v = 2 then (bytes v).length else if kind v = 4 then 2 else (elems v).length
def negV (v : V) : V := if kind v = 4 then vpair (right v) (left v) else vint (wr (0 - num v))

abbrev St := List V
def lay (d : Nat) (v : V) (vs : St) : Int × St := (0, vs.take (vs.length - d) ++ [v])
def pushF (k n : Int) (s : List UInt8) (vs : St) : Int × St :=
  if 6 < s.length then (1, vs) else
  if k = 1 then (if 5 ≤ vs.length then (3, vs) else lay 0 (vint n) vs) else
  if k = 2 then (if 5 ≤ vs.length then (3, vs) else lay 0 (vstr s) vs) else
  if k = 3 then (if 5 ≤ vs.length then (3, vs) else lay 0 .nil vs) else (2, vs)
def top (vs : St) : V := vs.getD (vs.length - 1) .nil
def subtop (vs : St) : V := vs.getD (vs.length - 1 - 1) .nil
def consF (vs : St) : Int × St :=
  if vs.length < 2 then (4, vs) else if kind (subtop vs) = 3 then (if 30 < (text (vcons (top vs) (subtop vs))).length then (7, vs) else lay 2 (vcons (top vs) (subtop vs)) vs) else (2, vs)
def pairF (vs : St) : Int × St :=
  if vs.length < 2 then (4, vs) else if 30 < (text (vpair (subtop vs) (top vs))).length then (7, vs) else lay 2 (vpair (subtop vs) (top vs)) vs
def addF (vs : St) : Int × St :=
  if vs.length < 2 then (4, vs) else if (plusF (subtop vs) (top vs)).1 ≠ 0 then ((plusF (subtop vs) (top vs)).1, vs) else lay 2 (plusF (subtop vs) (top vs)).2 vs
def canNeg (v : V) : Bool := kind v == 1 || kind v == 4
def canLen (v : V) : Bool := kind v != 1
def canIter (v : V) : Bool := kind v == 3 || kind v == 4
def canAdd (v : V) : Bool := kind v != 4
def negF (vs : St) : Int × St :=
  if vs.length = 0 then (4, vs) else if canNeg (top vs) then lay 1 (negV (top vs)) vs else (5, vs)
def lenF (vs : St) : Int × St :=
  if vs.length = 0 then (4, vs) else if canLen (top vs) then lay 1 (vint (lenV (top vs))) vs else (5, vs)
/-- The place of the first of the list with text t; -1. -/
def findIn (t : List UInt8) : List V → Int → Int
  | [], _ => -1
  | v :: r, i => if text v = t then i else findIn t r (i + 1)
def findF (vs : St) : Int × St :=
  if vs.length < 2 then (4, vs) else if canIter (subtop vs) then lay 2 (vint (findIn (text (top vs)) (parts (subtop vs)) 0)) vs else (5, vs)
def foldIn : V → List V → Int × V
  | acc, [] => (0, acc)
  | acc, v :: r => if (plusF acc v).1 ≠ 0 then ((plusF acc v).1, .nil) else foldIn (plusF acc v).2 r
def foldF (vs : St) : Int × St :=
  if vs.length = 0 then (4, vs) else if canIter (top vs) then
    (match parts (top vs) with
     | [] => (8, vs)
     | v :: r => if (foldIn v r).1 ≠ 0 then ((foldIn v r).1, vs) else lay 1 (foldIn v r).2 vs) else (5, vs)
def dupF (vs : St) : Int × St := if vs.length = 0 then (4, vs) else if 5 ≤ vs.length then (3, vs) else lay 0 (top vs) vs
def dropF (vs : St) : Int × St := if vs.length = 0 then (4, vs) else (0, vs.take (vs.length - 1))
def topIntF (vs : St) : Int × Int := if vs.length = 0 then (0, 4) else if kind (top vs) = 1 then (num (top vs), 0) else (0, 2)
/-- Show. -/
def showAll : List V → List UInt8
  | [] => []
  | v :: r => 32 :: (text v ++ showAll r)
def showF (vs : St) : List UInt8 := itoa vs.length ++ showAll vs
def quotF (vs : St) : Int × St :=
  if vs.length < 2 then (5, vs) else if kind (top vs) = 1 ∧ kind (subtop vs) = 1 ∧ num (top vs) ≠ 0 then lay 2 (vint (wr ((num (subtop vs)).tdiv (num (top vs))))) vs else (5, vs)
def doubleF (vs : St) : Int × St :=
  if vs.length = 0 then (5, vs) else if canAdd (top vs) then (if (plusF (top vs) (top vs)).1 ≠ 0 then ((plusF (top vs) (top vs)).1, vs) else lay 1 (plusF (top vs) (top vs)).2 vs) else (5, vs)
def spreadF (vs : St) : Int × St :=
  if vs.length = 0 then (5, vs) else if canIter (top vs) then (if 5 < vs.length - 1 + (parts (top vs)).length then (3, vs) else (0, vs.take (vs.length - 1) ++ parts (top vs))) else (5, vs)
def echoF (vs : St) : Int × St := if 5 < 2 * vs.length then (3, vs) else (0, vs.reverse ++ vs)
def extraF (k : Int) (vs : St) : Int × St :=
  if k = 0 then doubleF vs else if k = 2 then spreadF vs else if k = 3 then echoF vs else if k = 4 then quotF vs else (9, vs)

/-- What a stack may be between two calls. -/
def Okay (vs : St) : Prop := vs.length ≤ 5 ∧ ∀ v ∈ vs, (text v).length ≤ 30
theorem Okay.top {vs : St} (h : Okay vs) (hn : 0 < vs.length) : (text (top vs)).length ≤ 30 := by
  refine h.2 _ ?_
  unfold Go.Proofs.Qxb6500606a.top
  rw [List.getD_eq_getElem?_getD, List.getElem?_eq_getElem (by omega)]
  simp
theorem Okay.subtop {vs : St} (h : Okay vs) (hn : 1 < vs.length) : (text (subtop vs)).length ≤ 30 := by
  refine h.2 _ ?_
  unfold Go.Proofs.Qxb6500606a.subtop
  rw [List.getD_eq_getElem?_getD, List.getElem?_eq_getElem (by omega)]
  simp
end Go.Proofs.Qxb6500606a
