/-
  THE PLAIN MODEL of layer vals: no Go in sight. A value is a binary tree of the library's own type BT (its node's first number is the tag: 1 an Int, 2 a Str, 3 a list's cell, 4 a Pair; nil: the empty list).
-/
import Derived.Deep.Trees
namespace Go.Proofs.Qxb6500606a

theorem orMap {a b c d : Prop} (h : a ∨ b) (f : a → c) (g : b → d) : c ∨ d := h.elim (fun x => .inl (f x)) fun x => .inr (g x)

abbrev V := Go.Deep.BT (Int × List UInt8)
abbrev vnil : V := .nil
abbrev vint (n : Int) : V := .node 1 0 (n, []) .nil .nil
abbrev vstr (s : List UInt8) : V := .node 2 0 (0, s) .nil .nil
abbrev vcons (h t : V) : V := .node 3 0 (0, []) h t
abbrev vpair (a b : V) : V := .node 4 0 (0, []) a b

/-- The decimal digits of m, the highest first; none of 0. -/
def digs : Nat → Nat → List UInt8
  | 0, _ => []
  | f + 1, m => if m = 0 then [] else digs f (m / 10) ++ [UInt8.ofNat (48 + m % 10)]
def itoa (n : Int) : List UInt8 := if n = 0 then [48] else (if n < 0 then [45] else []) ++ digs 20 n.natAbs

/-- 0 ≤ the digits' values. -/
theorem digs_zero (f : Nat) : digs f 0 = [] := by cases f <;> simp [digs]
theorem digs_step (f m : Nat) (h : m ≠ 0) : digs (f + 1) m = digs f (m / 10) ++ [UInt8.ofNat (48 + m % 10)] := by simp [digs, h]
theorem digs_length (f : Nat) : ∀ m, (digs f m).length ≤ f := by
  induction f with
  | zero => intro m; simp [digs]
  | succ f ih =>
    intro m
    by_cases h : m = 0
    · simp [h, digs_zero]
    · rw [digs_step f m h]; simp; exact ih _
theorem itoa_length (n : Int) : (itoa n).length ≤ 21 := by
  unfold itoa
  have := digs_length 20 n.natAbs
  split
  · simp
  · split <;> simp <;> omega

def I64 (n : Int) : Prop := -9223372036854775808 ≤ n ∧ n ≤ 9223372036854775807

def isL : V → Bool
  | .nil => true
  | .node t _ _ _ _ => t == 3

/-- A value's text, and (of a list) the text between its brackets. -/
def tx : V → List UInt8 × List UInt8
  | .nil => ([91, 93], [])
  | .node t _ a l r =>
    if t = 1 then (itoa a.1, [])
    else if t = 2 then (itoa a.2.length ++ 58 :: a.2, [])
    else if t = 3 then
      (91 :: ((tx l).1 ++ ((match r with | .nil => [] | _ => 32 :: (tx r).2) ++ [93])), (tx l).1 ++ (match r with | .nil => [] | _ => 32 :: (tx r).2))
    else (60 :: ((tx l).1 ++ 32 :: ((tx r).1 ++ [62])), [])
def text (v : V) : List UInt8 := (tx v).1
def inner (v : V) : List UInt8 := (tx v).2
theorem text_nil : text .nil = [91, 93] := rfl
theorem text_int (n : Int) : text (vint n) = itoa n := rfl
theorem text_str (s : List UInt8) : text (vstr s) = itoa s.length ++ 58 :: s := rfl
theorem text_pair (a b : V) : text (vpair a b) = 60 :: (text a ++ 32 :: (text b ++ [62])) := rfl
theorem inner_nil : inner .nil = [] := rfl
theorem inner_one (h : V) : inner (vcons h .nil) = text h := by simp [inner, tx, text]
theorem inner_more (h h' t' : V) : inner (vcons h (vcons h' t')) = text h ++ 32 :: inner (vcons h' t') := rfl
theorem text_list (v : V) (h : isL v = true) : text v = 91 :: (inner v ++ [93]) := by
  cases v with
  | nil => rfl
  | node t o a l r =>
    have ht : t = 3 := by simpa [isL] using h
    subst ht
    simp [text, inner, tx, List.append_assoc]
theorem text_node3 (o : Nat) (a : Int × List UInt8) (l r : V) : text (.node 3 o a l r) = 91 :: (inner (.node 3 o a l r) ++ [93]) := text_list _ rfl
/-- What is still to be laid when rest is left. -/
def sepInner (v : V) : List UInt8 := match v with | .nil => [] | _ => 32 :: inner v
theorem inner_cons (h t : V) : inner (vcons h t) = text h ++ sepInner t := by
  cases t <;> rfl
/-- The elements of a list. -/
def elems : V → List V
  | .nil => []
  | .node t _ _ l r => if t = 3 then l :: elems r else []
def size : V → Nat
  | .nil => 0
  | .node _ _ _ l r => size l + size r + 1

theorem elems_cons (h t : V) : elems (vcons h t) = h :: elems t := rfl
theorem elem_size : ∀ (v e : V), e ∈ elems v → size e < size v
  | .nil, e, h => by cases h
  | .node t o a l r, e, h => by
    by_cases ht : t = 3
    · subst ht
      simp only [elems, if_true, List.mem_cons] at h
      rcases h with rfl | h
      · simp [size]; omega
      · have := elem_size r e h; simp [size]; omega
    · simp [elems, ht] at h
theorem isL_node {t o : Nat} {a : Int × List UInt8} {l r : V} (h : isL (.node t o a l r) = true) : t = 3 := by simpa [isL] using h
end Go.Proofs.Qxb6500606a
