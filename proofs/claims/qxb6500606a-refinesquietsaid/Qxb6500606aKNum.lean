/-
  Keeps: NumOf, KindOf, Can.
-/
import Derived.Test.Qxb6500606aKStop
namespace Go.Proofs.Qxb6500606a
open Go.ChangeShapes Go.WideShapes Go.ChangeAt Go.RowKit
attribute [local go_sem] str_size str_app str_app1 str_1app str_toList str_get
set_option linter.unusedVariables false

/-- What the digits spell. -/
def dval : List UInt8 → Nat := fun l => l.foldl (fun a c => a * 10 + (c.toNat - 48)) 0
theorem dval_snoc (l : List UInt8) (c : UInt8) : dval (l ++ [c]) = dval l * 10 + (c.toNat - 48) := by simp [dval]
def allDig (l : List UInt8) : Prop := ∀ c ∈ l, 48 ≤ c.toNat ∧ c.toNat ≤ 57
theorem dig_toNat (m : Nat) : (UInt8.ofNat (48 + m % 10)).toNat = 48 + m % 10 := by
  rw [UInt8.toNat_ofNat']; omega
theorem digs_all : ∀ f m, allDig (digs f m)
  | 0, m => by simp [digs, allDig]
  | f + 1, m => by
    by_cases h : m = 0
    · subst h; simp [digs_zero, allDig]
    · rw [digs_step f m h]
      intro c hc
      rcases List.mem_append.1 hc with h1 | h1
      · exact digs_all f _ c h1
      · rw [List.mem_singleton] at h1; subst h1; rw [dig_toNat]; omega
theorem digs_dval : ∀ f m, m < 10 ^ f → dval (digs f m) = m
  | 0, m, h => by simp at h; subst h; rfl
  | f + 1, m, h => by
    by_cases h0 : m = 0
    · subst h0; rw [digs_zero]; rfl
    · rw [digs_step f m h0, dval_snoc, digs_dval f (m / 10) (by rw [Nat.pow_succ] at h; omega), dig_toNat]
      omega
theorem dval_app_le : ∀ (r l : List UInt8), dval l ≤ dval (l ++ r)
  | [], l => by simp
  | c :: r, l => by
    have h1 := dval_app_le r (l ++ [c])
    rw [List.append_assoc] at h1
    have h2 := dval_snoc l c
    have h3 : dval (l ++ c :: r) = dval (l ++ ([c] ++ r)) := rfl
    omega
theorem dval_take_le (l : List UInt8) (i : Nat) : dval (l.take i) ≤ dval l := by
  have := dval_app_le (l.drop i) (l.take i)
  rwa [List.take_append_drop] at this
/-- The decimal text, split: the sign, then the digits. -/
theorem itoa_split (n : Int) (h : I64 n) : ∃ ds, allDig ds ∧ ds ≠ [] ∧ dval ds = n.natAbs ∧ itoa n = (if n < 0 then [45] else []) ++ ds := by
  unfold itoa
  by_cases h0 : n = 0
  · subst h0; exact ⟨[48], by intro c hc; simp at hc; subst hc; decide, by simp, rfl, rfl⟩
  · rw [if_neg h0]
    obtain ⟨h1, h2⟩ := h
    have hb : n.natAbs < 10 ^ 20 := by
      have : n.natAbs ≤ 9223372036854775808 := by omega
      have e : (10 : Nat) ^ 20 = 100000000000000000000 := by decide
      omega
    refine ⟨digs 20 n.natAbs, digs_all _ _, fun e => ?_, digs_dval _ _ hb, rfl⟩
    have := digs_dval 20 n.natAbs hb
    rw [e] at this
    simp [dval] at this
    omega
theorem dval_step {l : List UInt8} {i : Nat} {c : UInt8} (h : l[i]? = some c) : dval (l.take (i + 1)) = dval (l.take i) * 10 + (c.toNat - 48) := by
  rw [List.take_add_one, h]; exact dval_snoc _ _

set_option maxHeartbeats 1000000 in
theorem numOf_calls (n : Int) (hn : I64 n) (w : World) :
    Calls Try.prog 32 #[.string (str (itoa n))] w fun e w' => e = .returned (.int .i64 n) ∧ w' = w := by
  obtain ⟨ds, hd, hne, hv, he⟩ := itoa_split n hn
  rw [he]
  obtain ⟨h1, h2⟩ := hn
  have hlen : ds.length ≤ 100 := by
    have := itoa_length n
    rw [he] at this
    simp at this
    omega
  generalize hsg : (if n < 0 then [45] else [] : List UInt8) = sg
  have hsl : sg.length ≤ 1 := by rw [← hsg]; split <;> simp
  go_enter Try.func32, Try.ntmps32
  go_wp2
  go_loop [3, 4] (fun v x => ∃ j : Nat, x = .int .i64 j ∧ j ≤ (sg ++ ds).length ∧ v = .int .i64 (-(dval (ds.take (j - sg.length)) : Int))) (fun v x => (sg ++ ds).length - (intOf x).toNat)
  case atStart => exact ⟨0, rfl, Nat.zero_le _, by simp [dval]⟩
  case round =>
    obtain ⟨j, rfl, hj, rfl⟩ := hrel
    by_cases hlt : j < (sg ++ ds).length
    · have hl1 : decide ((j : Int) < (sg ++ ds).length) = true := decide_eq_true (by omega)
      obtain ⟨c, hc⟩ : ∃ c, (sg ++ ds)[j] = c := ⟨_, rfl⟩
      by_cases hjs : j < sg.length
      · have hc45 : c.toNat = 45 := by
          rw [List.getElem_append_left hjs] at hc
          subst hsg
          split at hjs
          · rename_i hneg
            have : j = 0 := by simp at hjs; omega
            subst this
            simp [hneg] at hc
            rw [← hc]; rfl
          · simp at hjs
        have hz : j - sg.length = 0 := by omega
        have hz1 : j + 1 - sg.length = 0 := by omega
        have HLL := hide (And.intro hj hlt)
        generalize hT : sg ++ ds = t at *
        clear hT
        go_wp2
        go_round
        case rel => exact ⟨j + 1, by go_num, by omega, by rw [hz, hz1]⟩
        case measure => simp [intOf]; omega
      · have hjb : j ≤ 200 := by simp at hlt; omega
        have hc' : ds[j - sg.length]? = some c := by
          rw [List.getElem_append_right (by omega)] at hc
          rw [← hc]
          exact List.getElem?_eq_getElem _
        obtain ⟨d1, d2⟩ := hd c (List.mem_of_getElem? hc')
        have hst := dval_step hc'
        have hle := dval_take_le ds (j - sg.length + 1)
        have e1 : j + 1 - sg.length = j - sg.length + 1 := by omega
        have hbd : dval (ds.take (j - sg.length + 1)) ≤ 9223372036854775808 := by rw [hv] at hle; omega
        have HST : Hid (dval (ds.take (j + 1 - sg.length)) = dval (ds.take (j - sg.length)) * 10 + (c.toNat - 48)) := by rw [e1]; exact hst
        rw [hst] at hbd
        have hne45 : ((c.toNat : Int) != 45) = true := by simp; omega
        generalize hA : dval (ds.take (j - sg.length)) = A at *
        clear hA hst hle hc'
        generalize hT : sg ++ ds = t at *
        clear hT
        have w1 : wrap64 (-(A : Int) * 10) = -(A : Int) * 10 := by unfold wrap64; omega
        have w2 : wrap64 (-(A : Int) * 10 - ((c.toNat : Int) - 48)) = -(A : Int) * 10 - ((c.toNat : Int) - 48) := by unfold wrap64; omega
        have w3 : ((c.toNat : Int) - 48) % 256 = (c.toNat : Int) - 48 := by omega
        go_wp2
        go_round
        case rel =>
          refine ⟨j + 1, by go_num, by omega, ?_⟩
          rw [HST.out]
          congr 1
          omega
        case measure => simp [intOf]; omega
    · have hjl : j = (sg ++ ds).length := by omega
      subst hjl
      have hl1 : decide (((sg ++ ds).length : Int) < (sg ++ ds).length) = false := decide_eq_false (by omega)
      have e1 : (sg ++ ds).length - sg.length = ds.length := by simp
      rw [e1, List.take_length, hv]
      have hpos : 0 < (sg ++ ds).length := by have := List.length_pos_iff.2 hne; simp; omega
      have hgt : decide (((sg ++ ds).length : Int) > 0) = true := decide_eq_true (by omega)
      obtain ⟨c, hc⟩ : ∃ c, (sg ++ ds)[0] = c := ⟨_, rfl⟩
      by_cases hneg : n < 0
      · have hc45 : c.toNat = 45 := by
          subst hsg
          simp [hneg] at hc
          rw [← hc]; rfl
        have hn' : -(n.natAbs : Int) = n := by omega
        generalize hT : sg ++ ds = t at *
        clear hT
        go_wp2
        go_ret
        exact ⟨by rw [← hn'] <;> rfl, rfl⟩
      · have hc45 : ((c.toNat : Int) == 45) = false := by
          subst hsg
          simp [hneg] at hc
          have := hd c (by rw [← hc]; exact List.getElem_mem _)
          simp
          omega
        have hn' : -(-(n.natAbs : Int)) = n := by omega
        have hw : wrap64 (-(-(n.natAbs : Int))) = n := by unfold wrap64; omega
        generalize hT : sg ++ ds = t at *
        clear hT
        go_wp2
        go_ret
        have hn2 : (n.natAbs : Int) = n := by omega
        exact ⟨by rw [hn2] <;> rfl, rfl⟩
end Go.Proofs.Qxb6500606a
