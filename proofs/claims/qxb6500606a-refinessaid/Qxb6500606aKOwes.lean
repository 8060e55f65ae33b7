/-
  Keeps: Owes, kind by kind: what is common. (Seat 606 alone.)
-/
import Derived.Test.Qxb6500606aKGhost
import Derived.Deep.DeepCutAuto
namespace Go.Proofs.Qxb6500606a
open Go.ChangeShapes Go.WideShapes Go.ChangeAt Go.RowKit
attribute [local go_sem] str_size str_app str_app1 str_1app str_toList str_get
set_option linter.unusedVariables false

/-- What Kept makes of Owes' answer. -/
def fin (vs : St) (drop : Nat) (outs : List V) (er : Int) : Int × St :=
  if er ≠ 0 then (er, vs) else if outs.any (fun v => decide (30 < (text v).length)) then (7, vs) else if 5 < vs.length - drop + outs.length then (3, vs) else (0, vs.take (vs.length - drop) ++ outs)
def OwesOut (w : World) (vs : St) (r : Int × St) (e : Ending) (w' : World) : Prop := ∃ (drop : Nat) (outs : List V) (er : Int) (ad : Option Addr) (n cap : Nat),
  e = .returned (.tuple #[.int .i64 drop, .slice ad n cap, .int .i64 er]) ∧ Below w.heap.size w w' ∧ (er = 0 → Strs w' w.heap.size (.slice ad n cap) outs) ∧ (er = 0 → drop ≤ vs.length ∧ outs.length ≤ 1000) ∧ fin vs drop outs er = r
theorem strs_one {W : World} {base B : Nat} {u : V} (h : W.heap[B]? = some (.cells #[.string (str (text u))] 9)) (hb : base ≤ B) : Strs W base (.slice (some ⟨B, 0, none⟩) 1 1) [u] :=
  ⟨rfl, .inr ⟨B, 1, _, rfl, hb, h, Nat.le_refl _, by unfold maxLen; omega, rfl, rfl⟩⟩
theorem strs_nil (W : World) (base : Nat) : Strs W base (.slice none 0 0) [] := World.ownsRow_nil W _ _ _
theorem Strs.base {W : World} {b b' : Nat} {sl : Value} {l : List V} (h : Strs W b sl l) (hb : b' ≤ b) : Strs W b' sl l := by
  refine ⟨h.1, orMap h.2 id ?_⟩
  rintro ⟨g, cap, cur, h1, h2, h3⟩
  exact ⟨g, cap, cur, h1, Nat.le_trans hb h2, h3⟩
theorem Strs.slice {W : World} {b : Nat} {sl : Value} {l : List V} (h : Strs W b sl l) : ∃ ad cap, sl = .slice ad l.length cap := by
  rcases h.2 with ⟨e, hn⟩ | ⟨g, cap, cur, h1, _⟩
  · exact ⟨none, 0, by rw [e, hn]⟩
  · exact ⟨_, cap, h1⟩
theorem Strs.at {W : World} {b : Nat} {sl : Value} {l : List V} (h : Strs W b sl l) (hne : l ≠ []) : ∃ g cap, sl = .slice (some ⟨g, 0, none⟩) l.length cap ∧ b ≤ g ∧ ∀ (i : Nat) (v : V), l[i]? = some v → W.cell? ⟨g, i, none⟩ = some (.string (str (text v))) := by
  rcases h.2 with ⟨e, hn⟩ | ⟨g, cap, cur, h1, h2, h3, h4, h5, h6, h7⟩
  · exact absurd (List.eq_nil_of_length_eq_zero hn) hne
  · refine ⟨g, cap, h1, h2, fun i v hv => ?_⟩
    have hi : i < l.length := (List.getElem?_eq_some_iff.1 hv).1
    have e1 : (strs l)[i]? = some (.string (str (text v))) := by unfold strs; rw [List.getElem?_map, hv]; rfl
    rw [← h7, List.getElem?_take_of_lt (by omega)] at e1
    simp only [World.cell?, h3]
    simpa using e1
theorem below_drew {w W : World} (h : Below w.heap.size w W) : Below w.heap.size w W.drew := ⟨h.os, h.tape, h.output, h.size, h.block⟩
theorem below_next {w W W' : World} (h : Below w.heap.size w W) (h' : Below W.heap.size W W') : Below w.heap.size w W' := h.trans (h'.mono h.size)
theorem fin_err (vs : St) (d : Nat) (outs : List V) {er : Int} (h : er ≠ 0) : fin vs d outs er = (er, vs) := by unfold fin; rw [if_pos h]
theorem fin_one (vs : St) (d : Nat) (v : V) : fin vs d [v] 0 = if 30 < (text v).length then (7, vs) else if 5 < vs.length - d + 1 then (3, vs) else lay d v vs := by
  unfold fin
  rw [if_neg (by simp)]
  by_cases h : 30 < (text v).length
  · rw [if_pos (by simp [h]), if_pos h]
  · rw [if_neg (by simp; omega), if_neg h]; rfl
theorem fin_nil (vs : St) (d : Nat) (h : vs.length ≤ 5) : fin vs d [] 0 = (0, vs.take (vs.length - d)) := by
  unfold fin
  rw [if_neg (by simp), if_neg (by simp), if_neg (by simp; omega)]; simp
/-- The texts that Owes calls a and b. -/
def aT (vs : St) : List UInt8 := if vs.length < 2 then [] else text (subtop vs)
def bT (vs : St) : List UInt8 := if vs.length < 1 then [] else text (top vs)
def opC (k a b c : Int) (S T : List UInt8) : Array Value := #[.int .i64 k, .int .i64 a, .int .i64 b, .int .i64 c, .string (str S), .string (str T)]
theorem opC_cell {W : World} {B : Nat} {k a b c : Int} {S T : List UInt8} (h : W.heap[B]? = some (.cells (opC k a b c S T) 30)) :
    W.cell? ⟨B, 0, none⟩ = some (.int .i64 k) ∧ W.cell? ⟨B, 1, none⟩ = some (.int .i64 a) ∧ W.cell? ⟨B, 2, none⟩ = some (.int .i64 b) ∧ W.cell? ⟨B, 4, none⟩ = some (.string (str S)) := by
  refine ⟨?_, ?_, ?_, ?_⟩ <;> simp [World.cell?, h, opC]
theorem aT_len {vs : St} (hok : Okay vs) : (aT vs).length ≤ 30 := by
  unfold aT; split
  · simp
  · exact hok.subtop (by omega)
theorem bT_len {vs : St} (hok : Okay vs) : (bT vs).length ≤ 30 := by
  unfold bT; split
  · simp
  · exact hok.top (by omega)
theorem top_at {vs : St} (h : 0 < vs.length) : vs[vs.length - 1]? = some (top vs) := by
  unfold top; rw [List.getD_eq_getElem?_getD, List.getElem?_eq_getElem (by omega)]; rfl
theorem sub_at {vs : St} (h : 1 < vs.length) : vs[vs.length - 2]? = some (subtop vs) := by
  unfold subtop; rw [List.getD_eq_getElem?_getD, show vs.length - 1 - 1 = vs.length - 2 by omega, List.getElem?_eq_getElem (by omega)]; rfl
theorem GhostAt.top {w : World} {G : Nat} {vs : St} (h : GhostAt w G vs) (hn : ¬ vs.length < 1) : w.cell? ⟨G, 1 + (vs.length - 1), none⟩ = some (.string (str (bT vs))) := by
  unfold bT; rw [if_neg hn]; exact h.cell.2 _ _ (top_at (by omega))
theorem GhostAt.sub {w : World} {G : Nat} {vs : St} (h : GhostAt w G vs) (hn : ¬ vs.length < 2) : w.cell? ⟨G, 1 + (vs.length - 2), none⟩ = some (.string (str (aT vs))) := by
  unfold aT; rw [if_neg hn]; exact h.cell.2 _ _ (sub_at (by omega))
theorem Below.heapEq {w W W' : World} (h : Below w.heap.size w W) (ho : W'.os = W.os) (ht : W'.tape = W.tape) (hp : W'.output = W.output) (hh : W'.heap = W.heap) : Below w.heap.size w W' :=
  ⟨ho.trans h.os, ht.trans h.tape, hp.trans h.output, by rw [hh]; exact h.size, fun k hk => by rw [hh]; exact h.block k hk⟩
end Go.Proofs.Qxb6500606a
