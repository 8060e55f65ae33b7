/-
  Keeps: plain laws for Owes. (Seat 606 alone.)
-/
import Derived.Test.Qxb6500606aKOwes
namespace Go.Proofs.Qxb6500606a
open Go.ChangeShapes Go.WideShapes Go.ChangeAt Go.RowKit
set_option linter.unusedVariables false

theorem text_pos {v : V} (h : Wf v) (hl : (text v).length ≤ 100000) : 1 ≤ (text v).length := by
  obtain ⟨c, r, e, _⟩ := text_head h hl
  rw [e]; simp
theorem seps_mem : ∀ {l : List V} {u : V}, u ∈ l → (text u).length ≤ (seps l).length
  | [], u, h => by cases h
  | e :: r, u, h => by
    rw [seps_cons]
    rcases List.mem_cons.1 h with rfl | h
    · simp [innerL]; omega
    · have := seps_mem h
      simp [innerL]; omega
theorem innerL_mem {l : List V} {u : V} (h : u ∈ l) : (text u).length ≤ (innerL l).length := by
  cases l with
  | nil => cases h
  | cons e r =>
    rcases List.mem_cons.1 h with rfl | h
    · simp [innerL]
    · have := seps_mem h
      simp [innerL]; omega
theorem seps_len : ∀ (l : List V), l.length ≤ (seps l).length
  | [] => Nat.zero_le _
  | e :: r => by
    have := seps_len r
    rw [seps_cons]
    simp [innerL]; omega
theorem innerL_len (l : List V) : l.length ≤ (innerL l).length + 1 := by
  cases l with
  | nil => simp
  | cons e r => have := seps_len r; simp [innerL]; omega
theorem partsLe {v : V} (h : Wf v) (hc : canIter v = true) : (∀ u ∈ parts v, Wf u ∧ (text u).length ≤ (text v).length) ∧ (parts v).length ≤ (text v).length := by
  obtain ⟨o, c, _, _, htx, hps⟩ := text_parts h hc
  refine ⟨fun u hu => ⟨(hps u hu).1, ?_⟩, ?_⟩
  · have := innerL_mem hu
    rw [htx]; simp; omega
  · have := innerL_len (parts v)
    rw [htx]; simp; omega
theorem lenV_parts {v : V} (h : Wf v) (hc : canIter v = true) : lenV v = (parts v).length := by
  unfold lenV parts
  rcases kinds5 h with e | e | e | e
  · simp [canIter, e] at hc
  · simp [canIter, e] at hc
  · simp [e]
  · simp [e]
theorem wf_vint {n : Int} (h : I64 n) : Wf (vint n) := ⟨rfl, .inl ⟨rfl, rfl, rfl, rfl, h⟩⟩
theorem wf_plus {a b : V} (ha : Wf a) (hb : Wf b) (h : (plusF a b).1 = 0) : Wf (plusF a b).2 := by
  unfold plusF at *
  split at h
  · cases h
  · split at h
    · cases h
    · split at h
      · cases h
      · rename_i h1 h2 h3
        rw [if_neg h1, if_neg h2, if_neg h3]
        show Wf (sumV a b)
        have hk : kind b = kind a := by omega
        rcases wf_cases ha with rfl | ⟨n, rfl, hn⟩ | ⟨s, rfl⟩ | ⟨l, q, rfl, hL, w1, w2⟩ | ⟨l, q, rfl, w1, w2⟩
        · exact hb
        · exact wf_vint (wr_i64 _)
        · exact ⟨rfl, .inr (.inl ⟨rfl, rfl, rfl, rfl⟩)⟩
        · have hLb : isL b = true := by rcases wf_cases hb with rfl | ⟨m, rfl, _⟩ | ⟨u, rfl⟩ | ⟨l, q, rfl, _⟩ | ⟨l, q, rfl, _⟩ <;> first | rfl | cases hk
          exact wf_app ha rfl hb hLb
        · exact absurd rfl h1
theorem parts_at {v : V} (h : Wf v) (hc : canIter v = true) (hl : (text v).length ≤ 1000) (W : World) :
    Calls Try.prog 66 #[.string (str (text v))] W fun e w' => ∃ ad cap, e = .returned (.slice ad (parts v).length cap) ∧ Strs w' W.heap.size (.slice ad (parts v).length cap) (parts v) ∧ Below W.heap.size W w' := by
  refine (parts_calls h hc hl W).mono ?_
  rintro e w' ⟨sl, rfl, hs, hb⟩
  obtain ⟨ad, cap, rfl⟩ := hs.slice
  exact ⟨ad, cap, rfl, hs, hb⟩
theorem stopF_le (t : List UInt8) : stopF t 0 ≤ t.length := by
  unfold stopF
  have h : ∀ l : List UInt8, (l.takeWhile isDig).length ≤ l.length := fun l => by
    induction l with
    | nil => simp
    | cons c r ih => simp only [List.takeWhile]; split <;> simp <;> omega
  have := h (t.drop 0)
  simp at this ⊢
  exact this
/-- Can, of any capability. -/
def canI (k : Nat) (c : Int) : Bool := canT k c.toNat
theorem canI_at {v : V} (h : Wf v) (hl : (text v).length ≤ 1000) (c : Int) (hc : c = 1 ∨ c = 2 ∨ c = 3 ∨ c = 4) (W : World) : Calls Try.prog 65 #[.string (str (text v)), .int .i64 c] W fun e w' => e = .returned (.bool (canI (kind v) c)) ∧ w' = W := by
  have := can_at h hl c.toNat (by omega) W
  rwa [show ((c.toNat : Nat) : Int) = c by omega] at this
theorem canI_neg {v : V} (h : Wf v) : canI (kind v) 2 = canNeg v := by unfold canNeg; rcases kinds5 h with e | e | e | e <;> rw [e] <;> rfl
theorem canI_len {v : V} (h : Wf v) : canI (kind v) 3 = canLen v := by unfold canLen; rcases kinds5 h with e | e | e | e <;> rw [e] <;> rfl
theorem canI_iter {v : V} (h : Wf v) : canI (kind v) 4 = canIter v := by unfold canIter; rcases kinds5 h with e | e | e | e <;> rw [e] <;> rfl
theorem findIn_step {t : List UInt8} {P : List V} {j : Nat} {v : V} (h : P[j]? = some v) (i : Int) : findIn t (P.drop j) i = if text v = t then i else findIn t (P.drop (j + 1)) (i + 1) := by
  have hj : j < P.length := (List.getElem?_eq_some_iff.1 h).1
  rw [List.drop_eq_getElem_cons hj, (List.getElem?_eq_some_iff.1 h).2]
  rfl
theorem foldIn_step {acc : V} {P : List V} {j : Nat} {v : V} (h : P[j]? = some v) : foldIn acc (P.drop j) = if (plusF acc v).1 ≠ 0 then ((plusF acc v).1, .nil) else foldIn (plusF acc v).2 (P.drop (j + 1)) := by
  have hj : j < P.length := (List.getElem?_eq_some_iff.1 h).1
  rw [List.drop_eq_getElem_cons hj, (List.getElem?_eq_some_iff.1 h).2]
  rfl
end Go.Proofs.Qxb6500606a
