/-
  Keeps: the ghost's small functions. (Seat 606 alone.)
-/
import Derived.Test.Qxb6500606aExtraAll
namespace Go.Proofs.Qxb6500606a
open Go.ChangeShapes Go.WideShapes Go.ChangeAt Go.RowKit
set_option linter.unusedVariables false

def isDig (c : UInt8) : Bool := c == 45 || (48 ≤ c && c ≤ 57)
def stopF (t : List UInt8) (i : Nat) : Nat := i + ((t.drop i).takeWhile isDig).length
theorem str_get (l : List UInt8) (j : Nat) (h : j < (str l).size) : (str l)[j] = l[j]'(by simpa [str_size] using h) := rfl
attribute [local go_sem] str_size str_app str_app1 str_1app str_toList str_get
theorem isDig_iff (c : UInt8) : isDig c = true ↔ ((c.toNat : Int) = 45 ∨ (48 ≤ (c.toNat : Int) ∧ (c.toNat : Int) ≤ 57)) := by
  simp only [isDig, Bool.or_eq_true, Bool.and_eq_true, beq_iff_eq, decide_eq_true_eq, UInt8.le_iff_toNat_le, ← UInt8.toNat_inj]
  simp
  omega
theorem stopF_dig {t : List UInt8} {j : Nat} (h : j < t.length) (hd : isDig t[j] = true) : stopF t j = stopF t (j + 1) := by
  unfold stopF
  rw [List.drop_eq_getElem_cons h, List.takeWhile_cons, if_pos hd]
  simp; omega
theorem stopF_not {t : List UInt8} {j : Nat} (h : j < t.length) (hd : ¬ isDig t[j] = true) : stopF t j = j := by
  unfold stopF
  rw [List.drop_eq_getElem_cons h, List.takeWhile_cons, if_neg hd]
  simp
theorem stopF_end {t : List UInt8} {j : Nat} (h : t.length ≤ j) : stopF t j = j := by
  unfold stopF
  rw [List.drop_eq_nil_of_le h]
  simp

set_option maxHeartbeats 400000 in
theorem stop_calls (t : List UInt8) (i : Nat) (hi : i ≤ t.length) (hl : t.length ≤ 100000) (w : World) :
    Calls Try.prog 67 #[.string (str t), .int .i64 i] w fun e w' => e = .returned (.int .i64 (stopF t i)) ∧ w' = w := by
  go_enter Try.func67, Try.ntmps67
  go_wp2
  go_loop [1] (fun x => ∃ j : Nat, x = .int .i64 j ∧ i ≤ j ∧ j ≤ t.length ∧ stopF t i = stopF t j) (fun x => t.length - (intOf x).toNat)
  case atStart => exact ⟨i, rfl, Nat.le_refl _, hi, rfl⟩
  case round =>
    obtain ⟨j, rfl, hij, hj, hs⟩ := hrel
    by_cases hlt : j < t.length
    · have h1 : decide ((j : Int) < t.length) = true := decide_eq_true (by omega)
      have H := hide hs
      have hD := isDig_iff t[j]
      have HY : Hid (isDig t[j] = true → stopF t j = stopF t (j + 1)) := stopF_dig hlt
      have HNO : Hid (¬ isDig t[j] = true → stopF t j = j) := stopF_not hlt
      clear hs
      generalize isDig t[j] = d at *
      have HD := hide hD
      clear hD
      go_wp2
      all_goals (try simp only [beq_iff_eq] at *)
      all_goals first
        | (refine ⟨⟨j + 1, by go_num, by omega, by omega, H.out.trans (HY.out (HD.out.2 (by omega)))⟩, by simp [intOf]; omega⟩)
        | (go_ret; exact ⟨by rw [H.out, HNO.out (fun h => by have := HD.out.1 h; omega)] <;> rfl, rfl⟩)
    · have h1 : decide ((j : Int) < t.length) = false := decide_eq_false (by omega)
      have H : Hid (stopF t i = j) := hs.trans (stopF_end (by omega))
      clear hs
      go_wp2
      go_ret
      exact ⟨by rw [H.out] <;> rfl, rfl⟩
end Go.Proofs.Qxb6500606a
