/-
  What the edges' walks share.
-/
import Derived.Test.Qxb6500606aGoes
namespace Go.Proofs.Qxb6500606a
open Go.ChangeShapes Go.WideShapes Go.ChangeAt Go.RowKit Go.Shelf
set_option linter.unusedVariables false

theorem wpList_load_row_want {P : Program} {ops : Array Oper} {rest : List Oper} {o : Oper} {a : Act} {w : World} {Q : Exit → Act → World → Prop} (hgd : Region.wanted o (yielded ops a.tmps) = true) (ty : TypeId) (x : Operand) (ho : o.op = .load ty x)
    (g : Nat) (hx : a.eval x = .pointer (some ⟨g, 0, none⟩)) (t : TypeId) (cs : Array Value) (fr : Nat × Nat) (d : TypeDesc) (hg : w.heap[g]? = some (.cells cs t fr))
    (hu : P.underlying ty = some d) (hd : (match d with | .struct _ | .array _ _ => true | _ => false) = true) (hi : (P.info? ty).map (·.size) = some cs.size)
    (h : wpList P ops Q rest (a.put o.dst (.agg cs)) w) : wpList P ops Q (o :: rest) a w :=
  BigFrame.wpList_want hgd fun _ hK => wp_load_row ty x ho g hx t cs fr d hg hu hd hi (hK _ _ h)

theorem heap_before {w : World} {o x : Obj} {b : Nat} (h : w.heap[b]? = some x) : (w.alloc o).heap[b]? = some x := (heap_alloc_old w o (lt_of_heap h)).trans h
theorem carry1 {w w2 : World} {o x : Obj} {b : Nat} (h : w.heap[b]? = some x) (hb : Below (w.alloc o).heap.size (w.alloc o) w2) : w2.heap[b]? = some x :=
  (hb.block b (lt_of_heap (heap_before h))).trans (heap_before h)
theorem carry2 {w w2 : World} {o1 o2 x : Obj} {b : Nat} (h : w.heap[b]? = some x) (hb : Below ((w.alloc o1).alloc o2).heap.size ((w.alloc o1).alloc o2) w2) : w2.heap[b]? = some x := carry1 (heap_before h) hb
theorem fresh2 {w w2 : World} {o1 o2 : Obj} (hb : Below ((w.alloc o1).alloc o2).heap.size ((w.alloc o1).alloc o2) w2) : w2.heap[w.heap.size]? = some o1 := carry1 (heap_alloc_new w o1) hb
theorem below_carry1 {W w w2 : World} {o : Obj} (h : Below W.heap.size W w) (hb : Below (w.alloc o).heap.size (w.alloc o) w2) : Below W.heap.size W w2 :=
  (h.alloc h.size o).trans (hb.mono (by have := h.size; simp; omega))
theorem below_carry2 {W w w2 : World} {o1 o2 : Obj} (h : Below W.heap.size W w) (hb : Below ((w.alloc o1).alloc o2).heap.size ((w.alloc o1).alloc o2) w2) : Below W.heap.size W w2 :=
  below_carry1 (below_alloc h) hb

/-- A script that holds no echo and no quot. -/
def fine (ops : List Step) : Bool := ops.all fun o => decide (-9223372036854775808 ≤ o.b) && decide (o.b ≤ 9223372036854775807) && (o.k != 12 || (o.a != 3 && o.a != 4))
theorem fine_of {ops : List Step} (h : fine ops = true) : ∀ o ∈ ops, I64 o.b ∧ (o.k = 12 → ExtraAt o.a) := by
  intro o ho
  have := List.all_eq_true.1 h o ho
  simp only [Bool.and_eq_true, decide_eq_true_eq, Bool.or_eq_true, bne_iff_ne] at this
  refine ⟨⟨this.1.1, this.1.2⟩, fun hk => ?_⟩
  rcases this.2 with h2 | h2
  · exact absurd hk h2
  · exact extra_at h2.1 h2.2
/-- Says, at a script that was just laid. -/
theorem say_at (ops : List Step) (c : Array Value) (n : Nat) (a : Ans) (hc : (flat ops).toArray = c) (hn : ops.length = n) (hl : n ≤ 100) (hf : fine ops = true) (ha : (saysF ops []).1 = a) (W : World) (B : Nat) (hB : B = W.heap.size) :
    Calls Try.prog 18 #[.slice (some ⟨B, 0, none⟩) n n] (W.alloc (.cells c 30)) fun e w' => e = .returned a.v ∧ Below (W.alloc (.cells c 30)).heap.size (W.alloc (.cells c 30)) w' := by
  subst hc hn ha hB
  exact says_calls ops (heap_alloc_new _ _) hl (fine_of hf)
end Go.Proofs.Qxb6500606a
