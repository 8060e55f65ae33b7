/-
  THE STACK IN MEMORY; what a method may touch.
-/
import Derived.Test.Qxb6500606aShow
import Derived.OwnWalk
import Derived.Laws.OwnMore
namespace Go.Proofs.Qxb6500606a
open Go.ChangeShapes Go.WideShapes Go.ChangeAt Go.RowKit
attribute [local go_sem] str_size str_app str_app1 str_1app str_toList

/-- Blocks outside S lie as they lay. -/
structure Only (S : Nat → Prop) (w w' : World) : Prop where
  os : w'.os = w.os
  tape : w'.tape = w.tape
  output : w'.output = w.output
  size : w.heap.size ≤ w'.heap.size
  block : ∀ b, b < w.heap.size → ¬ S b → w'.heap[b]? = w.heap[b]?

theorem Only.refl (S : Nat → Prop) (w : World) : Only S w w := ⟨rfl, rfl, rfl, Nat.le_refl _, fun _ _ _ => rfl⟩
theorem Only.of_below {S : Nat → Prop} {w w' : World} (h : Below w.heap.size w w') : Only S w w' := ⟨h.os, h.tape, h.output, h.size, fun b hb _ => h.block b hb⟩
theorem Only.below {w w' : World} {S : Nat → Prop} (h : Only S w w') (hS : ∀ b, S b → w.heap.size ≤ b) : Below w.heap.size w w' :=
  ⟨h.os, h.tape, h.output, h.size, fun b hb => h.block b hb fun hs => by have := hS b hs; omega⟩
theorem Only.below_at {w0 w w' : World} {S : Nat → Prop} (h0 : Below w0.heap.size w0 w) (h : Only S w w') (hS : ∀ b, S b → w0.heap.size ≤ b) : Below w0.heap.size w0 w' :=
  ⟨h.os.trans h0.os, h.tape.trans h0.tape, h.output.trans h0.output, Nat.le_trans h0.size h.size, fun b hb => (h.block b (Nat.lt_of_lt_of_le hb h0.size) fun hs => by have := hS b hs; omega).trans (h0.block b hb)⟩
theorem Only.mono {S T : Nat → Prop} {w w' : World} (h : Only S w w') (hST : ∀ b, b < w.heap.size → S b → T b) : Only T w w' :=
  ⟨h.os, h.tape, h.output, h.size, fun b hb hn => h.block b hb fun hs => hn (hST b hb hs)⟩
theorem Only.trans {S : Nat → Prop} {a b c : World} (h : Only S a b) {T : Nat → Prop} (k : Only T b c) (hT : ∀ i, T i → S i ∨ a.heap.size ≤ i) : Only S a c :=
  ⟨k.os.trans h.os, k.tape.trans h.tape, k.output.trans h.output, Nat.le_trans h.size k.size, fun i hi hn =>
    (k.block i (Nat.lt_of_lt_of_le hi h.size) fun ht => by rcases hT i ht with h1 | h1; exact hn h1; omega).trans (h.block i hi hn)⟩
theorem Only.alloc {S : Nat → Prop} {a w : World} (h : Only S a w) (o : Obj) : Only S a (w.alloc o) :=
  ⟨h.os, h.tape, h.output, by simp; exact Nat.le_succ_of_le h.size, fun b hb hn => (heap_alloc_old w o (Nat.lt_of_lt_of_le hb h.size)).trans (h.block b hb hn)⟩
theorem Only.setCell {S : Nat → Prop} {a w : World} (h : Only S a w) {p : Addr} (hp : S p.block ∨ a.heap.size ≤ p.block) (u : Value) : Only S a (w.setCell p u) :=
  ⟨h.os, h.tape, h.output, by simp; exact h.size, fun b hb hn => (Below.heap_setCell w p u b (fun e => by subst e; rcases hp with h1 | h1; exact hn h1; omega)).trans (h.block b hb hn)⟩
theorem Only.grown {S : Nat → Prop} {a w w' : World} {row : Option Nat} (h : Only S a w) (hg : w.grownBy w' row) (hr : ∀ k, row = some k → S k ∨ a.heap.size ≤ k) : Only S a w' :=
  ⟨hg.os.trans h.os, hg.tape.trans h.tape, hg.output.trans h.output, Nat.le_trans h.size hg.size, fun b hb hn =>
    (hg.block b (Nat.lt_of_lt_of_le hb h.size) fun e => by rcases hr b e.symm with h1 | h1; exact hn h1; omega).trans (h.block b hb hn)⟩

/-- Values, one by one. -/
def RepAll (w : World) : List V → List Value → Prop
  | [], [] => True
  | v :: vs, x :: xs => Rep w v x ∧ RepAll w vs xs
  | _, _ => False
theorem RepAll.length {w : World} : ∀ {vs : List V} {xs : List Value}, RepAll w vs xs → xs.length = vs.length
  | [], [], _ => rfl
  | _ :: _, _ :: _, h => by simp [RepAll.length h.2]
  | [], _ :: _, h => h.elim
  | _ :: _, [], h => h.elim
theorem RepAll.keep {w w' : World} (hk : KeepsV w w') : ∀ {vs : List V} {xs : List Value}, RepAll w vs xs → RepAll w' vs xs
  | [], [], _ => trivial
  | _ :: _, _ :: _, h => ⟨h.1.keep hk, RepAll.keep hk h.2⟩
  | [], _ :: _, h => h.elim
  | _ :: _, [], h => h.elim
theorem RepAll.take {w : World} : ∀ {vs : List V} {xs : List Value} (n : Nat), RepAll w vs xs → RepAll w (vs.take n) (xs.take n)
  | _, _, 0, _ => by simp [RepAll]
  | [], [], n + 1, _ => by simp [RepAll]
  | _ :: _, _ :: _, n + 1, h => ⟨h.1, RepAll.take n h.2⟩
  | [], _ :: _, _ + 1, h => h.elim
  | _ :: _, [], _ + 1, h => h.elim
theorem RepAll.append {w : World} : ∀ {vs vs' : List V} {xs xs' : List Value}, RepAll w vs xs → RepAll w vs' xs' → RepAll w (vs ++ vs') (xs ++ xs')
  | [], _, [], _, _, h => h
  | _ :: _, _, _ :: _, _, h, h' => ⟨h.1, RepAll.append h.2 h'⟩
  | [], _, _ :: _, _, h, _ => h.elim
  | _ :: _, _, [], _, h, _ => h.elim
theorem RepAll.get {w : World} : ∀ {vs : List V} {xs : List Value} (i : Nat) {v : V}, RepAll w vs xs → vs[i]? = some v → ∃ x, xs[i]? = some x ∧ Rep w v x
  | [], [], i, v, _, h => by simp at h
  | u :: vs, x :: xs, 0, v, hr, h => by simp at h; subst h; exact ⟨x, rfl, hr.1⟩
  | u :: vs, x :: xs, i + 1, v, hr, h => by simp at h; simpa using RepAll.get i hr.2 h
  | [], _ :: _, _, _, h, _ => h.elim
  | _ :: _, [], _, _, h, _ => h.elim

def own (s : Nat) (g : Option Nat) : Nat → Prop := fun b => b = s ∨ g = some b

/-- s is a stack: its array's block is g, its values vs (the bottom first). -/
structure IsStack (w : World) (s : Nat) (g : Option Nat) (busy : Bool) (vs : List V) (a : Option Addr) (cap : Nat) (xs : List Value) : Prop where
  head : w.heap[s]? = some (.cells #[.slice a vs.length cap, .bool busy] 46)
  row : w.ownsRow 0 60 1 (.slice a vs.length cap) vs.length xs
  arr : (Value.slice a vs.length cap).ownBlock = g
  reps : RepAll w vs xs

theorem own_tag {w : World} {s : Nat} {g : Option Nat} {busy : Bool} {vs : List V} {a : Option Addr} {cap : Nat} {xs : List Value} (h : IsStack w s g busy vs a cap xs) {b : Nat} (hb : own s g b) :
    ∃ c t, w.heap[b]? = some (.cells c t) ∧ (t = 46 ∨ t = 60) := by
  rcases hb with rfl | hg
  · exact ⟨_, _, h.head, .inl rfl⟩
  · rcases h.row.2 with ⟨h1, _⟩ | ⟨g', cap', cur, h1, _, hh, _⟩
    · have := h.arr; rw [h1, hg] at this; simp [Value.ownBlock] at this
    · have := h.arr
      rw [h1, hg] at this
      simp [Value.ownBlock] at this
      subst this
      exact ⟨_, _, hh, .inr rfl⟩
theorem IsStack.keepsV {w w' : World} {s : Nat} {g : Option Nat} {busy : Bool} {vs : List V} {a : Option Addr} {cap : Nat} {xs : List Value} (h : IsStack w s g busy vs a cap xs) (ho : Only (own s g) w w') : KeepsV w w' := by
  intro b c t ht e
  refine (ho.block b (lt_of_heap e) fun hb => ?_).trans e
  obtain ⟨c', t', h1, h2⟩ := own_tag h hb
  rw [e] at h1
  simp at h1
  rcases h2 with h2 | h2 <;> rcases ht with ht | ht | ht | ht <;> (rw [← h1.2, ht] at h2; exact absurd h2 (by decide))
theorem IsStack.ne {w : World} {s : Nat} {g : Option Nat} {busy : Bool} {vs : List V} {a : Option Addr} {cap : Nat} {xs : List Value} (h : IsStack w s g busy vs a cap xs) {b : Nat} (hb : g = some b) : b ≠ s := by
  intro e
  subst e
  rcases h.row.2 with ⟨h1, _⟩ | ⟨g', cap', cur, h1, _, hh, _⟩
  · have := h.arr; rw [h1, hb] at this; simp [Value.ownBlock] at this
  · have := h.arr
    rw [h1, hb] at this
    simp [Value.ownBlock] at this
    subst this
    rw [h.head] at hh
    simp at hh

/-- The stack lies in a world in which nothing of it has turned. -/
theorem IsStack.only {w w' : World} {s : Nat} {g : Option Nat} {busy : Bool} {vs : List V} {a : Option Addr} {cap : Nat} {xs : List Value} (h : IsStack w s g busy vs a cap xs) (hh : ∀ b, own s g b → w'.heap[b]? = w.heap[b]?) (hk : KeepsV w w') :
    IsStack w' s g busy vs a cap xs := by
  refine ⟨(hh s (.inl rfl)).trans h.head, ⟨h.row.1, ?_⟩, h.arr, h.reps.keep hk⟩
  rcases h.row.2 with hn | ⟨g', cap', cur, h1, h2, h3, h4⟩
  · exact .inl hn
  · exact .inr ⟨g', cap', cur, h1, h2, (hh g' (.inr (by rw [← h.arr, h1]; rfl))).trans h3, h4⟩
theorem IsStack.below {w w' : World} {s : Nat} {g : Option Nat} {busy : Bool} {vs : List V} {a : Option Addr} {cap : Nat} {xs : List Value} (h : IsStack w s g busy vs a cap xs) (hb : Below w.heap.size w w') : IsStack w' s g busy vs a cap xs :=
  h.only (fun b hb' => by obtain ⟨c, t, h1, _⟩ := own_tag h hb'; exact hb.block b (lt_of_heap h1)) (.of_below hb)
end Go.Proofs.Qxb6500606a
