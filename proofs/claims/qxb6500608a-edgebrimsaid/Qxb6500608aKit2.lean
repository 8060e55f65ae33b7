/-
  What the edges' walks share, where stacks live on between two calls.
-/
import Derived.Test.Qxb6500608aKit
namespace Go.Proofs.Qxb6500608a
open Go.ChangeShapes Go.WideShapes Go.ChangeAt Go.RowKit Go.Shelf
set_option linter.unusedVariables false

/-- Answers that were laid down lie as they lay. -/
def Keep24 (W w' : World) : Prop := ∀ (b : Nat) (c : Array Value), W.heap[b]? = some (.cells c 24) → w'.heap[b]? = some (.cells c 24)
theorem Keep24.of_below {W w' : World} (h : Below W.heap.size W w') : Keep24 W w' := fun b c e => (h.block b (lt_of_heap e)).trans e
/-- A stack that the call itself has made. -/
def Live (w0 W : World) (s : Nat) (vs : St) : Prop := ∃ g, Stk W s g false vs ∧ w0.heap.size ≤ s ∧ ∀ b, g = some b → w0.heap.size ≤ b
theorem Live.below {w0 W w' : World} {s : Nat} {vs : St} (h : Live w0 W s vs) (hb : Below W.heap.size W w') : Live w0 w' s vs := by
  obtain ⟨g, h1, h2⟩ := h
  exact ⟨g, h1.below hb, h2⟩
theorem Live.alloc {w0 W : World} {s : Nat} {vs : St} (h : Live w0 W s vs) (o : Obj) : Live w0 (W.alloc o) s vs := h.below (below_alloc (Below.refl _ _))
/-- Two stacks that the call has made; they share nothing. -/
def Live2 (w0 W : World) (x : Nat) (vx : St) (y : Nat) (vy : St) : Prop := ∃ gx gy, Stk W x gx false vx ∧ Stk W y gy false vy ∧ w0.heap.size ≤ x ∧ w0.heap.size ≤ y ∧ (∀ b, gx = some b → w0.heap.size ≤ b) ∧ (∀ b, gy = some b → w0.heap.size ≤ b) ∧ ∀ b, own x gx b → ¬ own y gy b
theorem Live2.swap {w0 W : World} {x y : Nat} {vx vy : St} (h : Live2 w0 W x vx y vy) : Live2 w0 W y vy x vx := by
  obtain ⟨gx, gy, h1, h2, h3, h4, h5, h6, h7⟩ := h
  exact ⟨gy, gx, h2, h1, h4, h3, h6, h5, fun b hb hb' => h7 b hb' hb⟩
theorem Live2.below {w0 W w' : World} {x y : Nat} {vx vy : St} (h : Live2 w0 W x vx y vy) (hb : Below W.heap.size W w') : Live2 w0 w' x vx y vy := by
  obtain ⟨gx, gy, h1, h2, h3⟩ := h
  exact ⟨gx, gy, h1.below hb, h2.below hb, h3⟩
theorem Live2.alloc {w0 W : World} {x y : Nat} {vx vy : St} (h : Live2 w0 W x vx y vy) (o : Obj) : Live2 w0 (W.alloc o) x vx y vy := h.below (below_alloc (Below.refl _ _))

theorem new_at {w0 W : World} (hG : Below w0.heap.size w0 W) : Calls Try.prog 14 #[] W fun e w' => ∃ s, e = .returned (.pointer (some ⟨s, 0, none⟩)) ∧ Live w0 w' s [] ∧ Below w0.heap.size w0 w' ∧ Keep24 W w' := by
  refine (new_calls W).mono ?_
  rintro e w' ⟨rfl, rfl⟩
  exact ⟨_, rfl, ⟨none, ⟨_, _, _, new_is W⟩, hG.size, fun b hb => by cases hb⟩, below_alloc hG, .of_below (below_alloc (Below.refl _ _))⟩
theorem new2_at {w0 W : World} {x : Nat} {vx : St} (hG : Below w0.heap.size w0 W) (h : Live w0 W x vx) : Calls Try.prog 14 #[] W fun e w' => ∃ s, e = .returned (.pointer (some ⟨s, 0, none⟩)) ∧ Live2 w0 w' x vx s [] ∧ Below w0.heap.size w0 w' ∧ Keep24 W w' := by
  refine (new_calls W).mono ?_
  rintro e w' ⟨rfl, rfl⟩
  obtain ⟨g, h1, h2, h3⟩ := h
  refine ⟨_, rfl, ⟨g, none, h1.below (below_alloc (Below.refl _ _)), ⟨_, _, _, new_is W⟩, h2, hG.size, h3, (fun b hb => by cases hb), ?_⟩, below_alloc hG, .of_below (below_alloc (Below.refl _ _))⟩
  rintro b hb (rfl | hb')
  · obtain ⟨a, cap, xs, h1⟩ := h1
    obtain ⟨c, t, h4, _⟩ := own_tag h1 hb
    have := lt_of_heap h4
    omega
  · cases hb'

def okB (vs : St) : Bool := decide (vs.length ≤ 5) && vs.all fun v => decide ((text v).length ≤ 30)
theorem okay_of {vs : St} (h : okB vs = true) : Okay vs := by
  simp only [okB, Bool.and_eq_true, decide_eq_true_eq, List.all_eq_true] at h
  exact h
theorem keep24_moved {W w' : World} {s : Nat} {g : Option Nat} {vs vs' : St} (h : Stk W s g false vs) (hm : Moved W s g false vs' w') : Keep24 W w' := fun b c e => hm.keepsBlock h e (by decide) (by decide)

/-- Goes, at a script that was just laid. -/
theorem go_at (ops : List Step) (c : Array Value) (n : Nat) (a : Ans) (vs : St) (hc : (flat ops).toArray = c) (hn : ops.length = n) (hl : n ≤ 100) (hf : fine ops = true) (hok : okB vs = true) (ha : (saysF ops vs).1 = a)
    {w0 W : World} {s : Nat} (h : Live w0 W s vs) (hG : Below w0.heap.size w0 W) (B : Nat) (hB : B = W.heap.size) :
    Calls Try.prog 15 #[.pointer (some ⟨s, 0, none⟩), .slice (some ⟨B, 0, none⟩) n n] (W.alloc (.cells c 27)) fun e w' => e = .returned a.v ∧ Live w0 w' s (saysF ops vs).2 ∧ Below w0.heap.size w0 w' ∧ Keep24 W w' := by
  subst hc hn ha hB
  obtain ⟨g, h1, h2, h3⟩ := h
  have hA : Below W.heap.size W (W.alloc (.cells (flat ops).toArray 27)) := below_alloc (Below.refl _ _)
  refine (goes_calls (h1.below hA) (okay_of hok) ops (heap_alloc_new _ _) hl (fine_of hf)).mono ?_
  rintro e w' ⟨rfl, hm⟩
  have hk := keep24_moved (h1.below hA) hm
  obtain ⟨g', m1, m2, m3⟩ := hm
  refine ⟨rfl, ⟨g', m1, h2, fun b hb => ?_⟩, ?_, fun b c e => hk b c (heap_before e)⟩
  · rcases m2 b hb with h | h
    · exact h3 b h
    · have := hG.size; simp at h; omega
  · refine Only.below_at (below_alloc hG) m3 ?_
    rintro b (rfl | hb)
    · exact h2
    · exact h3 b hb
/-- Goes on the first of two stacks. -/
theorem go2_at (ops : List Step) (c : Array Value) (n : Nat) (a : Ans) (vs : St) (hc : (flat ops).toArray = c) (hn : ops.length = n) (hl : n ≤ 100) (hf : fine ops = true) (hok : okB vs = true) (ha : (saysF ops vs).1 = a)
    {w0 W : World} {x y : Nat} {vy : St} (h : Live2 w0 W x vs y vy) (hG : Below w0.heap.size w0 W) (B : Nat) (hB : B = W.heap.size) :
    Calls Try.prog 15 #[.pointer (some ⟨x, 0, none⟩), .slice (some ⟨B, 0, none⟩) n n] (W.alloc (.cells c 27)) fun e w' => e = .returned a.v ∧ Live2 w0 w' x (saysF ops vs).2 y vy ∧ Below w0.heap.size w0 w' ∧ Keep24 W w' := by
  subst hc hn ha hB
  obtain ⟨gx, gy, h1, h2, h3, h4, h5, h6, h7⟩ := h
  have hA : Below W.heap.size W (W.alloc (.cells (flat ops).toArray 27)) := below_alloc (Below.refl _ _)
  refine (goes_calls (h1.below hA) (okay_of hok) ops (heap_alloc_new _ _) hl (fine_of hf)).mono ?_
  rintro e w' ⟨rfl, hm⟩
  have hk := keep24_moved (h1.below hA) hm
  obtain ⟨g', m1, m2, m3⟩ := hm
  have hy := h2.below hA
  have hkv := (h1.below hA).keepsV m3
  refine ⟨rfl, ⟨g', gy, m1, ?_, h3, h4, fun b hb => ?_, h6, fun b hb hb' => ?_⟩, ?_, fun b c e => hk b c (heap_before e)⟩
  · obtain ⟨ay, cy, xy, hy⟩ := hy
    refine ⟨ay, cy, xy, hy.only (fun b hb => ?_) hkv⟩
    obtain ⟨c, t, e, _⟩ := own_tag hy hb
    exact m3.block b (lt_of_heap e) fun hx => h7 b hx hb
  · rcases m2 b hb with h | h
    · exact h5 b h
    · have := hG.size; simp at h; omega
  · have hby : b < W.heap.size := by
      obtain ⟨ay, cy, xy, h2⟩ := h2
      obtain ⟨c, t, e, _⟩ := own_tag h2 hb'
      exact lt_of_heap e
    rcases hb with rfl | hb
    · exact h7 _ (.inl rfl) hb'
    · rcases m2 b hb with h | h
      · exact h7 b (.inr h) hb'
      · simp at h; omega
  · refine Only.below_at (below_alloc hG) m3 ?_
    rintro b (rfl | hb)
    · exact h3
    · exact h5 b hb
/-- Says, told so. -/
theorem say2_at (ops : List Step) (c : Array Value) (n : Nat) (a : Ans) (hc : (flat ops).toArray = c) (hn : ops.length = n) (hl : n ≤ 100) (hf : fine ops = true) (ha : (saysF ops []).1 = a) (W : World) (B : Nat) (hB : B = W.heap.size) :
    Calls Try.prog 13 #[.slice (some ⟨B, 0, none⟩) n n] (W.alloc (.cells c 27)) fun e w' => e = .returned a.v ∧ Below W.heap.size W w' :=
  (say_at ops c n a hc hn hl hf ha W B hB).mono (by rintro e w' ⟨rfl, hb⟩; exact ⟨rfl, below_carry1 (Below.refl _ _) hb⟩)
end Go.Proofs.Qxb6500608a
