/-
  Keeps: Owes, kind by kind: Extra. (Seat 606 alone.)
-/
import Derived.Test.Qxb6500606aKPlain
import Derived.OwnWalk
namespace Go.Proofs.Qxb6500606a
open Go.ChangeShapes Go.WideShapes Go.ChangeAt Go.RowKit
attribute [local go_sem] str_size str_app str_app1 str_1app str_toList str_get
set_option linter.unusedVariables false

section
variable {w : World} {G : Nat} {vs : St}
set_option maxRecDepth 100000 in
set_option maxHeartbeats 2000000 in
theorem owes_extra0 (h : GhostAt w G vs) (hok : Okay vs) (hwf : ∀ v ∈ vs, Wf v) (a b c : Int) (S T : List UInt8) (ha : a ≠ 3) (ha4 : a ≠ 4) :
    Calls Try.prog 31 #[.pointer (some ⟨G, 0, none⟩), opV 12 a b c S T] w (OwesOut w vs (extraF a vs)) := by
  have hA : Below w.heap.size w (w.alloc (.cells (opC 12 a b c S T) 30)) := below_alloc (Below.refl _ _)
  have HG : Hid (∀ w1, Below w.heap.size w w1 → GhostAt w1 G vs) := fun w1 hb => h.below hb
  have d0 := (h.below hA).cell.1
  have dt := (h.below hA).top
  have hn5 := hok.1
  have hal := aT_len hok
  have hbl := bT_len hok
  have HN : Hid (vs.length = vs.length) := rfl
  clear h
  generalize hTA : aT vs = ta at *
  generalize hTB : bT vs = tb at *
  have HTA := hide hTA
  have HTB := hide hTB
  clear hTA hTB
  generalize hn : vs.length = n at *
  replace HN := hide hn
  replace HN : Hid (vs.length = n) := hn
  clear hn
  unfold opV
  unfold opC at hA d0 dt
  go_enter Try.func31, Try.ntmps31
  go_upto_if 42 with fail
  go_cut [8] from 38 to 57 (fun s8 wx => s8 = .string (str tb) ∧ Below w.heap.size w wx ∧ wx.heap[w.heap.size]? = some (.cells (opC 12 a b c S T) 30))
  case first =>
    by_cases h1 : n < 1
    · have hd : decide ((1 : Int) ≤ n) = false := decide_eq_false (by omega)
      have hbe : tb = [] := by rw [← HTB.out]; unfold bT; rw [HN.out, if_pos h1]
      go_wp2_with fail
      go_meet
      exact ⟨by rw [hbe]; rfl, hA, heap_alloc_new _ _⟩
    · have hd : decide ((1 : Int) ≤ n) = true := decide_eq_true (by omega)
      have d1 := dt h1
      clear dt
      go_wp2_with fail
      go_region
      go_wp2_with fail
      go_meet
      exact ⟨rfl, below_drew hA, heap_alloc_new _ _⟩
  case rest =>
  obtain ⟨rfl, hB1, hop1⟩ := hcut
  have d0 := (HG.out wc hB1).cell.1
  have ds := (HG.out wc hB1).sub
  rw [HN.out] at d0 ds
  rw [HTA.out] at ds
  clear dt hA
  go_upto_if 57 with fail
  go_cut [7] from 43 to 69 (fun s7 wx => s7 = .string (str ta) ∧ Below w.heap.size w wx ∧ wx.heap[w.heap.size]? = some (.cells (opC 12 a b c S T) 30))
  case first =>
    by_cases h1 : n < 2
    · have hd : decide ((2 : Int) ≤ n) = false := decide_eq_false (by omega)
      have hbe : ta = [] := by rw [← HTA.out]; unfold aT; rw [HN.out, if_pos h1]
      go_wp2_with fail
      go_meet
      exact ⟨by rw [hbe]; rfl, hB1, hop1⟩
    · have hd : decide ((2 : Int) ≤ n) = true := decide_eq_true (by omega)
      have d1 := ds h1
      clear ds
      go_wp2_with fail
      go_region
      go_wp2_with fail
      go_meet
      exact ⟨rfl, below_drew hB1, hop1⟩
  case rest =>
  obtain ⟨rfl, hB2, hop2⟩ := hcut
  obtain ⟨e0, e1, e2, e4⟩ := opC_cell hop2
  clear ds d0 hop1 hB1
  have d0 := (HG.out wc hB2).cell.1
  rw [HN.out] at d0
  have hvn := HN.out
  have hd : decide ((n : Int) < 0) = false := decide_eq_false (by omega)
  have q3 : (a == 3) = false := beq_false_of_ne ha
  have q4 : (a == 4) = false := beq_false_of_ne ha4
  have HE : Hid (extraF a vs = if a = 0 then doubleF vs else if a = 2 then spreadF vs else (9, vs)) := by
    show extraF a vs = _
    unfold extraF; rw [if_neg ha, if_neg ha4]
  have hb0 : n < 1 → tb = [] := fun h => by rw [← HTB.out]; unfold bT; rw [if_pos (by omega)]
  have hb1 : ¬ n < 1 → text (top vs) = tb := fun h => by rw [← HTB.out]; unfold bT; rw [if_neg (by omega)]
  by_cases a0 : a = 0
  · have q0 : (a == 0) = true := by simp [a0]
    rw [if_pos a0] at HE
    by_cases h1 : n < 1
    · have hs := sum_none wc []
      rw [← hb0 h1] at hs
      have HR : Hid (extraF a vs = (5, vs)) := by
        show extraF a vs = _
        rw [HE.out]; unfold doubleF; rw [if_pos (by omega)]
      replace hs := hide hs
      unfold SumOut at hs
      clear hvn hb0 hb1 ha ha4 a0 HE hwf
      go_wp2_with (go_at_call 64; refine hs.out.mono ?_; rintro e w1 ⟨rfl, hb1⟩)
      go_ret3
      exact ⟨1, [], 5, _, 1, 1, rfl, below_alloc (below_next hB2 hb1), (fun e => by cases e), (fun e => by cases e), by rw [HR.out]; exact fin_err _ _ _ (by decide)⟩
    · have hwt : Wf (top vs) := hwf _ (List.mem_of_getElem? (top_at (by omega)))
      have ET := hb1 h1
      have hss := sum_calls (b := top vs) wc hwt hwt (by rw [ET]; omega) (by rw [ET]; omega)
      rw [ET] at hss
      have HR : Hid (extraF a vs = if (plusF (top vs) (top vs)).1 ≠ 0 then ((plusF (top vs) (top vs)).1, vs) else lay 1 (plusF (top vs) (top vs)).2 vs) := by
        show extraF a vs = _
        rw [HE.out]; unfold doubleF; rw [if_neg (by omega)]
        by_cases hk4 : kind (top vs) = 4
        · have e1 : canAdd (top vs) = false := by simp [canAdd, hk4]
          have e2 : plusF (top vs) (top vs) = (5, .nil) := by unfold plusF; rw [if_pos hk4]
          rw [e1, e2]; rfl
        · have e1 : canAdd (top vs) = true := by simp [canAdd, hk4]
          rw [e1]; rfl
      have HPT : Hid ((plusF (top vs) (top vs)).1 = 0 → (text (plusF (top vs) (top vs)).2).length ≤ 30) := fun e => plusF_text e
      have H5 : Hid (¬ 5 < vs.length - 1 + 1) := by show ¬ 5 < vs.length - 1 + 1; omega
      have hs := hide hss
      clear hvn hb0 hb1 ha ha4 a0 HE hwf hss ET hwt
      generalize plusF (top vs) (top vs) = q at *
      have HTX : Hid (q.1 = 0 → text q.2 = if q.1 = 0 then text q.2 else []) := fun e => by rw [if_pos e]
      unfold SumOut at hs
      generalize (if q.1 = 0 then text q.2 else []) = tt at *
      go_wp2_with (go_at_call 64; refine hs.out.mono ?_; rintro e w1 ⟨rfl, hb1⟩)
      go_ret3
      have hB3 : Below w.heap.size w w1 := below_next hB2 hb1
      refine ⟨1, [q.2], q.1, _, 1, 1, rfl, below_alloc hB3, fun e => strs_one ?_ hB3.size, (fun _ => ⟨by rw [HN.out]; omega, by simp⟩), ?_⟩
      · rw [HTX.out e]
        exact heap_alloc_new _ _
      · rw [HR.out]
        by_cases hq : q.1 = 0
        · rw [if_neg (by simp [hq]), hq, fin_one, if_neg H5.out, if_neg (by have := HPT.out hq; omega)]
        · rw [if_pos hq]; exact fin_err _ _ _ hq
  have q0 : (a == 0) = false := beq_false_of_ne a0
  rw [if_neg a0] at HE
  by_cases a2 : a = 2
  · have q2 : (a != 2) = false := by simp [a2]
    rw [if_pos a2] at HE
    by_cases h1 : n < 1
    · have hcc := can_calls [] (by decide) 4 (.inr (.inr (.inr rfl))) (.inl rfl)
      rw [← hb0 h1] at hcc
      have HR : Hid (extraF a vs = (5, vs)) := by
        show extraF a vs = _
        rw [HE.out]; unfold spreadF; rw [if_pos (by omega)]
      have hkf : canT (kindF tb) 4 = false := by rw [hb0 h1]; rfl
      rw [hkf] at hcc
      have hc := hide hcc
      clear hvn hb0 hb1 ha ha4 a0 a2 HE hwf hcc hkf
      go_wp2_with (go_at_call 65; refine (hc.out _).mono ?_; rintro e w' ⟨rfl, hw⟩; subst w')
      go_ret3
      exact ⟨0, [], 5, none, 0, 0, rfl, hB2, (fun e => by cases e), (fun _ => ⟨Nat.zero_le _, by simp⟩), by rw [HR.out]; exact fin_err _ _ _ (by decide)⟩
    · have hwt : Wf (top vs) := hwf _ (List.mem_of_getElem? (top_at (by omega)))
      have ET := hb1 h1
      have hcc := canI_at hwt (by rw [ET]; omega)
      have q4 := canI_iter hwt
      rw [ET] at hcc
      have hc := hide hcc
      by_cases hit : canIter (top vs) = true
      · rw [hit] at q4
        have HR : Hid (extraF a vs = if 5 < vs.length - 1 + (parts (top vs)).length then (3, vs) else (0, vs.take (vs.length - 1) ++ parts (top vs))) := by
          show extraF a vs = _
          rw [HE.out]; unfold spreadF; rw [if_neg (by omega), if_pos hit]
        have hpp := parts_at hwt hit (by rw [ET]; omega)
        have hps := (partsLe hwt hit)
        rw [ET] at hpp hps
        have hp := hide hpp
        have HPS := hide hps.1
        have hpl9 := hps.2
        clear hvn hb0 hb1 ha ha4 a0 a2 HE hwf hcc hpp hps hit hwt ET
        generalize kind (top vs) = kk at *
        generalize parts (top vs) = P at *
        go_wp2_with (first | (go_at_call 65; refine (hc.out _ (by decide) _).mono ?_; rintro e w' ⟨rfl, hw⟩; subst w') | (go_at_call 66; refine (hp.out _).mono ?_; rintro e w1 ⟨ad, cap, rfl, hs1, hb1⟩))
        go_ret3
        have hB3 : Below w.heap.size w w1 := below_next hB2 hb1
        refine ⟨1, P, 0, ad, P.length, cap, rfl, hB3, fun e => hs1.base hB2.size, (fun _ => ⟨by rw [HN.out]; omega, by omega⟩), ?_⟩
        rw [HR.out]
        unfold fin
        rw [if_neg (by simp), if_neg]
        simp only [List.any_eq_true, decide_eq_true_eq]
        rintro ⟨u, hu, hlt⟩
        have := (HPS.out u hu).2
        omega
      · have hcf : canIter (top vs) = false := by simpa using hit
        rw [hcf] at q4
        have HR : Hid (extraF a vs = (5, vs)) := by
          show extraF a vs = _
          rw [HE.out]; unfold spreadF; rw [if_neg (by omega), if_neg hit]
        clear hvn hb0 hb1 ha ha4 a0 a2 HE hwf hcc hit hwt ET
        generalize kind (top vs) = kk at *
        go_wp2_with (go_at_call 65; refine (hc.out _ (by decide) _).mono ?_; rintro e w' ⟨rfl, hw⟩; subst w')
        go_ret3
        exact ⟨0, [], 5, none, 0, 0, rfl, hB2, (fun e => by cases e), (fun _ => ⟨Nat.zero_le _, by simp⟩), by rw [HR.out]; exact fin_err _ _ _ (by decide)⟩
  have q2 : (a != 2) = true := by simpa using a2
  rw [if_neg a2] at HE
  have HR := HE
  clear hvn hb0 hb1 ha ha4 a0 a2 HE hwf
  go_wp2_with fail
  go_ret3
  exact ⟨0, [], 9, none, 0, 0, rfl, hB2, (fun e => by cases e), (fun _ => ⟨Nat.zero_le _, by simp⟩), by rw [HR.out]; exact fin_err _ _ _ (by decide)⟩
end
end Go.Proofs.Qxb6500606a
