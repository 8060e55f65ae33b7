/-
  Keeps: Kept: what it needs beside Owes. (Seat 606 alone.)
-/
import Derived.Test.Qxb6500606aKPlain
import Derived.Test.Qxb6500606aExtraAll
namespace Go.Proofs.Qxb6500606a
open Go.ChangeShapes Go.WideShapes Go.ChangeAt Go.RowKit
set_option linter.unusedVariables false

/-- The error behind the test of the texts. -/
def e1F (outs : List V) (er : Int) : Int := if er ≠ 0 then er else if outs.any (fun v => decide (30 < (text v).length)) then 7 else 0
theorem fin_split {vs : St} {drop : Nat} {outs : List V} {er re : Int} {rs : St} (h : fin vs drop outs er = (re, rs)) :
    (e1F outs er ≠ 0 ∧ re = e1F outs er ∧ rs = vs) ∨ (e1F outs er = 0 ∧ er = 0 ∧ 5 < vs.length - drop + outs.length ∧ re = 3 ∧ rs = vs) ∨ (e1F outs er = 0 ∧ er = 0 ∧ vs.length - drop + outs.length ≤ 5 ∧ re = 0 ∧ rs = vs.take (vs.length - drop) ++ outs) := by
  unfold fin at h
  unfold e1F
  split at h
  · rename_i h1
    cases h
    exact .inl ⟨by rw [if_pos h1]; exact h1, by rw [if_pos h1], rfl⟩
  · rename_i h1
    split at h
    · rename_i h2
      cases h
      exact .inl ⟨by rw [if_neg h1, if_pos h2]; decide, by rw [if_neg h1, if_pos h2], rfl⟩
    · rename_i h2
      have he : er = 0 := by simpa using h1
      split at h
      · rename_i h3
        cases h
        exact .inr (.inl ⟨by rw [if_neg h1, if_neg h2], he, h3, rfl, rfl⟩)
      · rename_i h3
        cases h
        exact .inr (.inr ⟨by rw [if_neg h1, if_neg h2], he, by omega, rfl, rfl⟩)
/-- The ghost's block turned. -/
theorem GhostAt.lt {w : World} {G : Nat} {vs : St} (h : GhostAt w G vs) : G < w.heap.size := by
  obtain ⟨t0, t1, t2, t3, t4, hh, _⟩ := h
  exact lt_of_heap hh
theorem GhostAt.cells {w : World} {G : Nat} {vs : St} (h : GhostAt w G vs) : (∀ j, w.frozen? ⟨G, j, none⟩ = false) ∧ ∀ j, j < 6 → ∃ x, w.cell? ⟨G, j, none⟩ = some x := by
  obtain ⟨t0, t1, t2, t3, t4, hh, _⟩ := h
  refine ⟨fun j => frozen_of_row w G j _ _ hh, fun j hj => ?_⟩
  simp only [World.cell?, hh, ghostC]
  rcases (show j = 0 ∨ j = 1 ∨ j = 2 ∨ j = 3 ∨ j = 4 ∨ j = 5 by omega) with rfl | rfl | rfl | rfl | rfl | rfl <;> exact ⟨_, rfl⟩
theorem GhostAt.drop {w : World} {G : Nat} {vs : St} (h : GhostAt w G vs) (m : Nat) (hm : m ≤ vs.length) : GhostAt (w.setCell ⟨G, 0, none⟩ (.int .i64 m)) G (vs.take m) := by
  obtain ⟨t0, t1, t2, t3, t4, hh, ht⟩ := h
  refine ⟨t0, t1, t2, t3, t4, ?_, fun i v hv => ht i v ?_⟩
  · rw [heap_setCell_same w G 0 _ _ _ hh]
    have : (vs.take m).length = m := by simp; omega
    rw [this]; rfl
  · have hi : i < m := by have := (List.getElem?_eq_some_iff.1 hv).1; simp at this; omega
    rwa [List.getElem?_take_of_lt hi] at hv
theorem GhostAt.push {w : World} {G : Nat} {l : St} (h : GhostAt w G l) (v : V) (hl : l.length < 5) : GhostAt ((w.setCell ⟨G, 1 + l.length, none⟩ (.string (str (text v)))).drew.setCell ⟨G, 0, none⟩ (.int .i64 (l.length + 1 : Nat))) G (l ++ [v]) := by
  obtain ⟨t0, t1, t2, t3, t4, hh, ht⟩ := h
  have h1 := heap_setCell_same w G (1 + l.length) _ _ (.string (str (text v))) hh
  have h2 := heap_setCell_same (w.setCell ⟨G, 1 + l.length, none⟩ (.string (str (text v)))).drew G 0 _ _ (.int .i64 (l.length + 1 : Nat)) h1
  have key : ∀ (i : Nat) (u : V), (l ++ [v])[i]? = some u → ([t0, t1, t2, t3, t4].set l.length (text v))[i]? = some (text u) := by
    intro i u hu
    by_cases hi : i < l.length
    · rw [List.getElem?_append_left hi] at hu
      rw [List.getElem?_set_ne (by omega)]
      exact ht i u hu
    · have hil : i = l.length := by have := (List.getElem?_eq_some_iff.1 hu).1; simp at this; omega
      subst hil
      simp at hu
      subst hu
      rw [List.getElem?_set_self (by simp; omega)]
  rcases (show l.length = 0 ∨ l.length = 1 ∨ l.length = 2 ∨ l.length = 3 ∨ l.length = 4 by omega) with e | e | e | e | e
  · refine ⟨text v, t1, t2, t3, t4, ?_, by rw [e] at key; exact key⟩
    rw [h2]; simp [ghostC, e]
  · refine ⟨t0, text v, t2, t3, t4, ?_, by rw [e] at key; exact key⟩
    rw [h2]; simp [ghostC, e]
  · refine ⟨t0, t1, text v, t3, t4, ?_, by rw [e] at key; exact key⟩
    rw [h2]; simp [ghostC, e]
  · refine ⟨t0, t1, t2, text v, t4, ?_, by rw [e] at key; exact key⟩
    rw [h2]; simp [ghostC, e]
  · refine ⟨t0, t1, t2, t3, text v, ?_, by rw [e] at key; exact key⟩
    rw [h2]; simp [ghostC, e]
/-- The ghost in a world in which its block lies as it lay. -/
theorem GhostAt.same {w w' : World} {G : Nat} {vs : St} (h : GhostAt w G vs) (e : w'.heap[G]? = w.heap[G]?) : GhostAt w' G vs := by
  obtain ⟨t0, t1, t2, t3, t4, hh, ht⟩ := h
  exact ⟨t0, t1, t2, t3, t4, e.trans hh, ht⟩
/-- A stack in a world in which but the ghost was turned. -/
theorem stk_ghost {w w' : World} {s G : Nat} {g : Option Nat} {vs us : St} (h : Stk w s g false vs) (hg : GhostAt w G us) (ho : Only (fun b => b = G) w w') : Stk w' s g false vs := by
  obtain ⟨a, cap, xs, h⟩ := h
  obtain ⟨t0, t1, t2, t3, t4, hh, _⟩ := hg
  refine ⟨a, cap, xs, h.only (fun b hb => ?_) ?_⟩
  · obtain ⟨c, t, e, ht⟩ := own_tag h hb
    refine ho.block b (lt_of_heap e) ?_
    rintro rfl
    rw [hh] at e
    cases e
    revert ht
    decide
  · intro b c t ht e
    refine (ho.block b (lt_of_heap e) ?_).trans e
    rintro rfl
    rw [hh] at e
    cases e
    exact absurd ht (by unfold still; decide)
theorem only_drew {S : Nat → Prop} {a w : World} (h : Only S a w) : Only S a w.drew := ⟨h.os, h.tape, h.output, h.size, h.block⟩
theorem stk_wf {w : World} {s : Nat} {g : Option Nat} {b : Bool} {vs : St} (h : Stk w s g b vs) : ∀ v ∈ vs, Wf v := by
  intro v hv
  obtain ⟨a, cap, xs, h⟩ := h
  obtain ⟨i, hi⟩ := List.getElem?_of_mem hv
  obtain ⟨x, _, hr⟩ := h.reps.get i hi
  exact wf_of_rep hr
theorem ghost_moved {W W' : World} {s G : Nat} {g : Option Nat} {vs vs' us : St} (h : Stk W s g false vs) (hm : Moved W s g false vs' W') (hg : GhostAt W G us) : GhostAt W' G us := by
  obtain ⟨t0, t1, t2, t3, t4, hh, ht⟩ := hg
  exact ⟨t0, t1, t2, t3, t4, hm.keepsBlock h hh (by decide) (by decide), ht⟩
theorem ite_ans {c : Prop} [Decidable c] {x y : Ans × St} (hx : x.1.s = [] ∧ x.1.n = 0) (hy : y.1.s = [] ∧ y.1.n = 0) : (if c then x else y).1.s = [] ∧ (if c then x else y).1.n = 0 := by
  by_cases h : c
  · rw [if_pos h]; exact hx
  · rw [if_neg h]; exact hy
theorem doF_ans {k a b : Int} {S : List UInt8} {vs : St} (h3 : k ≠ 13) (h4 : k ≠ 14) (h5 : k ≠ 15) : (doF k a b S vs).1.s = [] ∧ (doF k a b S vs).1.n = if k = 11 then (doF k a b S vs).1.n else 0 := by
  by_cases hk : k = 11
  · subst hk; exact ⟨rfl, by rw [if_pos rfl]⟩
  · rw [if_neg hk]
    unfold doF
    rw [if_neg h3, if_neg h4, if_neg h5, if_neg hk]
    have hz : ∀ r : Int × St, (ofE r).1.s = [] ∧ (ofE r).1.n = 0 := fun r => ⟨rfl, rfl⟩
    exact ite_ans (hz _) (ite_ans (hz _) (ite_ans (hz _) (ite_ans (hz _) (ite_ans (hz _) (ite_ans (hz _) (ite_ans (hz _) (ite_ans (hz _) (ite_ans (hz _) (ite_ans (hz _) (ite_ans (hz _) ⟨rfl, rfl⟩))))))))))
/-- The answer's block behind a store. -/
theorem ans_set {W : World} {A : Nat} {e n : Int} {s : List UInt8} (h : W.heap[A]? = some (.cells (ansC e n s) 27)) :
    (∀ m, (W.setCell ⟨A, 1, none⟩ (.int .i64 m)).heap[A]? = some (.cells (ansC e m s) 27)) ∧ (∀ t, (W.setCell ⟨A, 3, none⟩ (.string (str t))).heap[A]? = some (.cells (ansC e n t) 27)) ∧ W.cell? ⟨A, 1, none⟩ = some (.int .i64 n) ∧ W.cell? ⟨A, 3, none⟩ = some (.string (str s)) ∧ W.frozen? ⟨A, 1, none⟩ = false ∧ W.frozen? ⟨A, 3, none⟩ = false := by
  refine ⟨fun m => ?_, fun t => ?_, by simp [World.cell?, h, ansC], by simp [World.cell?, h, ansC], frozen_of_row W A 1 _ _ h, frozen_of_row W A 3 _ _ h⟩
  · rw [heap_setCell_same W A 1 _ _ _ h]; rfl
  · rw [heap_setCell_same W A 3 _ _ _ h]; rfl
end Go.Proofs.Qxb6500606a
