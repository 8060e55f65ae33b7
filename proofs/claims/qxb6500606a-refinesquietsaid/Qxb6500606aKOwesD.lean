/-
  Keeps: Owes, kind by kind. (Seat 606 alone.)
-/
import Derived.Test.Qxb6500606aKPlain
namespace Go.Proofs.Qxb6500606a
open Go.ChangeShapes Go.WideShapes Go.ChangeAt Go.RowKit
attribute [local go_sem] str_size str_app str_app1 str_1app str_toList str_get
set_option linter.unusedVariables false

section
variable {w : World} {G : Nat} {vs : St}
set_option maxRecDepth 100000 in
set_option maxHeartbeats 2000000 in
theorem owes_find (h : GhostAt w G vs) (hok : Okay vs) (hwf : ∀ v ∈ vs, Wf v) (a b c : Int) (S T : List UInt8) :
    Calls Try.prog 31 #[.pointer (some ⟨G, 0, none⟩), opV 7 a b c S T] w (OwesOut w vs (findF vs)) := by
  have hA : Below w.heap.size w (w.alloc (.cells (opC 7 a b c S T) 30)) := below_alloc (Below.refl _ _)
  have HG : Hid (∀ w1, Below w.heap.size w w1 → GhostAt w1 G vs) := fun w1 hb => h.below hb
  have d0 := (h.below hA).cell.1
  have dt := (h.below hA).top
  have hn5 := hok.1
  have hal := aT_len hok
  have hbl := bT_len hok
  have HN : Hid (vs.length = vs.length) := rfl
  clear h
  generalize hTA : aT vs = ta at *
  generalize hTB : bT vs = tb at *
  have HTA := hide hTA
  have HTB := hide hTB
  clear hTA hTB
  generalize hn : vs.length = n at *
  replace HN := hide hn
  replace HN : Hid (vs.length = n) := hn
  clear hn
  unfold opV
  unfold opC at hA d0 dt
  go_enter Try.func31, Try.ntmps31
  go_upto_if 42 with fail
  go_cut [8] from 38 to 57 (fun s8 wx => s8 = .string (str tb) ∧ Below w.heap.size w wx ∧ wx.heap[w.heap.size]? = some (.cells (opC 7 a b c S T) 30))
  case first =>
    by_cases h1 : n < 1
    · have hd : decide ((1 : Int) ≤ n) = false := decide_eq_false (by omega)
      have hbe : tb = [] := by rw [← HTB.out]; unfold bT; rw [HN.out, if_pos h1]
      go_wp2_with fail
      go_meet
      exact ⟨by rw [hbe]; rfl, hA, heap_alloc_new _ _⟩
    · have hd : decide ((1 : Int) ≤ n) = true := decide_eq_true (by omega)
      have d1 := dt h1
      clear dt
      go_wp2_with fail
      go_region
      go_wp2_with fail
      go_meet
      exact ⟨rfl, below_drew hA, heap_alloc_new _ _⟩
  case rest =>
  obtain ⟨rfl, hB1, hop1⟩ := hcut
  have d0 := (HG.out wc hB1).cell.1
  have ds := (HG.out wc hB1).sub
  rw [HN.out] at d0 ds
  rw [HTA.out] at ds
  clear dt hA
  go_upto_if 57 with fail
  go_cut [7] from 43 to 69 (fun s7 wx => s7 = .string (str ta) ∧ Below w.heap.size w wx ∧ wx.heap[w.heap.size]? = some (.cells (opC 7 a b c S T) 30))
  case first =>
    by_cases h1 : n < 2
    · have hd : decide ((2 : Int) ≤ n) = false := decide_eq_false (by omega)
      have hbe : ta = [] := by rw [← HTA.out]; unfold aT; rw [HN.out, if_pos h1]
      go_wp2_with fail
      go_meet
      exact ⟨by rw [hbe]; rfl, hB1, hop1⟩
    · have hd : decide ((2 : Int) ≤ n) = true := decide_eq_true (by omega)
      have d1 := ds h1
      clear ds
      go_wp2_with fail
      go_region
      go_wp2_with fail
      go_meet
      exact ⟨rfl, below_drew hB1, hop1⟩
  case rest =>
  obtain ⟨rfl, hB2, hop2⟩ := hcut
  obtain ⟨e0, e1, e2, e4⟩ := opC_cell hop2
  clear ds d0 hop1 hB1
  have d0 := (HG.out wc hB2).cell.1
  rw [HN.out] at d0
  have hvn := HN.out
  by_cases h2 : n < 2
  · have hd : decide ((n : Int) < 2) = true := decide_eq_true (by omega)
    have HR : Hid (findF vs = (4, vs)) := by unfold findF; rw [if_pos (by omega)]; exact rfl
    clear hvn
    go_wp2_with fail
    go_ret3
    exact ⟨0, [], 4, none, 0, 0, rfl, hB2, (fun e => by cases e), (fun _ => ⟨Nat.zero_le _, by simp⟩), by rw [HR.out]; exact fin_err _ _ _ (by decide)⟩
  have hd : decide ((n : Int) < 2) = false := decide_eq_false (by omega)
  have ET : text (top vs) = tb := by rw [← HTB.out]; unfold bT; rw [if_neg (by omega)]
  have ES : text (subtop vs) = ta := by rw [← HTA.out]; unfold aT; rw [if_neg (by omega)]
  have hws : Wf (subtop vs) := hwf _ (List.mem_of_getElem? (sub_at (by omega)))
  have HR : Hid (findF vs = if canIter (subtop vs) then lay 2 (vint (findIn (text (top vs)) (parts (subtop vs)) 0)) vs else (5, vs)) := by unfold findF; rw [if_neg (by omega)]; exact rfl
  have HF : Hid (∀ x : Int, fin vs 2 [vint x] 0 = lay 2 (vint x) vs) := fun x => by
    rw [fin_one, if_neg (by have := text_vint x; omega), if_neg (by omega)]
  rw [ET] at HR
  have hcc := canI_at hws (by rw [ES]; omega)
  have q4 := canI_iter hws
  rw [ES] at hcc
  have hc := hide hcc
  clear hvn hcc hwf
  by_cases hit : canIter (subtop vs) = true
  · rw [hit] at q4 HR
    have hpp := parts_at hws hit (by rw [ES]; omega)
    have hpl := (partsLe hws hit).2
    rw [ES] at hpp hpl
    have hp := hide hpp
    clear hpp hws ES ET hit
    generalize kind (subtop vs) = kk at *
    generalize parts (subtop vs) = P at *
    go_wp2_with (first | (go_at_call 65; refine (hc.out _ (by decide) _).mono ?_; rintro e w' ⟨rfl, hw⟩; subst w') | (go_at_call 66; refine (hp.out _).mono ?_; rintro e w1 ⟨ad, cap, rfl, hs1, hb1⟩))
    have hB3 := below_next hB2 hb1
    have HS := hide hs1
    clear hs1
    go_loop [21] (fun x => ∃ j : Nat, x = .int .i64 j ∧ j ≤ P.length ∧ findIn tb P 0 = findIn tb (P.drop j) j) (fun x => P.length - (intOf x).toNat)
    case atStart => exact ⟨0, rfl, Nat.zero_le _, rfl⟩
    case round =>
      obtain ⟨j, rfl, hj, hfi⟩ := hrel
      by_cases hjl : j < P.length
      · obtain ⟨v, hv⟩ : ∃ v, P[j]? = some v := ⟨_, List.getElem?_eq_getElem hjl⟩
        have hd1 : decide ((j : Int) < P.length) = true := decide_eq_true (by omega)
        obtain ⟨g, cap', e1, _, hcl⟩ := HS.out.at (by intro e; rw [e] at hjl; simp at hjl)
        cases e1
        have c0 := hcl j v hv
        have HST := findIn_step (t := tb) hv j
        rw [← hfi] at HST
        have hj30 : j ≤ 30 := by omega
        by_cases heq : text v = tb
        · rw [if_pos heq] at HST
          have hq : (text v != tb) = false := by simp [heq]
          have hq2 : (text v == tb) = true := by simp [heq]
          have hne : ((j : Int) == P.length) = false := beq_false_of_ne (by omega)
          have hita := hide (itoa_calls j w1 (nat_i64 (by omega)))
          have HFI := hide HST
          clear hcl hv heq HST hfi
          generalize text v = tv at *
          generalize hib : itoa (j : Int) = ib at *
          have HIB := hide hib
          clear hib
          go_wp2_with (go_at_call 33; refine hita.out.mono ?_; rintro e w2 ⟨rfl, hb2⟩)
          go_ret3
          have hB4 := below_next hB3 hb2
          refine ⟨2, [vint j], 0, _, 1, 1, rfl, below_alloc hB4, fun _ => strs_one ?_ hB4.size, (fun _ => ⟨by rw [HN.out]; omega, by simp⟩), ?_⟩
          · rw [text_int, HIB.out]; exact heap_alloc_new _ _
          · rw [HR.out, if_pos (by simp), HFI.out]; exact HF.out _
        · rw [if_neg heq] at HST
          have hq : (text v != tb) = true := by simpa using heq
          have hq2 : (text v == tb) = false := by simpa using heq
          have HFI := hide HST
          clear hcl hv heq HST hfi
          generalize text v = tv at *
          go_wp2
          go_round
          case rel => exact ⟨j + 1, by go_num, by omega, by rw [HFI.out]; simp⟩
          case measure => simp [intOf]; omega
      · have e : j = P.length := by omega
        subst e
        have hd1 : decide ((P.length : Int) < P.length) = false := decide_eq_false (by omega)
        have hita := hide (itoa_calls (-1) w1 (by constructor <;> decide))
        have HFI : Hid (findIn tb P 0 = -1) := by
          show findIn tb P 0 = -1
          rw [hfi, List.drop_length]; rfl
        clear hfi
        generalize hib : itoa (-1) = ib at *
        have HIB := hide hib
        clear hib
        go_wp2_with (go_at_call 33; refine hita.out.mono ?_; rintro e w2 ⟨rfl, hb2⟩)
        go_ret3
        have hB4 := below_next hB3 hb2
        refine ⟨2, [vint (-1)], 0, _, 1, 1, rfl, below_alloc hB4, fun _ => strs_one ?_ hB4.size, (fun _ => ⟨by rw [HN.out]; omega, by simp⟩), ?_⟩
        · rw [text_int, HIB.out]; exact heap_alloc_new _ _
        · rw [HR.out, if_pos (by simp), HFI.out]; exact HF.out _
  · have hcf : canIter (subtop vs) = false := by simpa using hit
    rw [hcf] at q4 HR
    clear hws hit ET ES
    generalize kind (subtop vs) = kk at *
    go_wp2_with (go_at_call 65; refine (hc.out _ (by decide) _).mono ?_; rintro e w' ⟨rfl, hw⟩; subst w')
    go_ret3
    exact ⟨0, [], 5, none, 0, 0, rfl, hB2, (fun e => by cases e), (fun _ => ⟨Nat.zero_le _, by simp⟩), by rw [HR.out]; exact fin_err _ _ _ (by decide)⟩
set_option maxRecDepth 100000 in
set_option maxHeartbeats 2000000 in
theorem owes_fold (h : GhostAt w G vs) (hok : Okay vs) (hwf : ∀ v ∈ vs, Wf v) (a b c : Int) (S T : List UInt8) :
    Calls Try.prog 31 #[.pointer (some ⟨G, 0, none⟩), opV 8 a b c S T] w (OwesOut w vs (foldF vs)) := by
  have hA : Below w.heap.size w (w.alloc (.cells (opC 8 a b c S T) 30)) := below_alloc (Below.refl _ _)
  have HG : Hid (∀ w1, Below w.heap.size w w1 → GhostAt w1 G vs) := fun w1 hb => h.below hb
  have d0 := (h.below hA).cell.1
  have dt := (h.below hA).top
  have hn5 := hok.1
  have hal := aT_len hok
  have hbl := bT_len hok
  have HN : Hid (vs.length = vs.length) := rfl
  clear h
  generalize hTA : aT vs = ta at *
  generalize hTB : bT vs = tb at *
  have HTA := hide hTA
  have HTB := hide hTB
  clear hTA hTB
  generalize hn : vs.length = n at *
  replace HN := hide hn
  replace HN : Hid (vs.length = n) := hn
  clear hn
  unfold opV
  unfold opC at hA d0 dt
  go_enter Try.func31, Try.ntmps31
  go_upto_if 42 with fail
  go_cut [8] from 38 to 57 (fun s8 wx => s8 = .string (str tb) ∧ Below w.heap.size w wx ∧ wx.heap[w.heap.size]? = some (.cells (opC 8 a b c S T) 30))
  case first =>
    by_cases h1 : n < 1
    · have hd : decide ((1 : Int) ≤ n) = false := decide_eq_false (by omega)
      have hbe : tb = [] := by rw [← HTB.out]; unfold bT; rw [HN.out, if_pos h1]
      go_wp2_with fail
      go_meet
      exact ⟨by rw [hbe]; rfl, hA, heap_alloc_new _ _⟩
    · have hd : decide ((1 : Int) ≤ n) = true := decide_eq_true (by omega)
      have d1 := dt h1
      clear dt
      go_wp2_with fail
      go_region
      go_wp2_with fail
      go_meet
      exact ⟨rfl, below_drew hA, heap_alloc_new _ _⟩
  case rest =>
  obtain ⟨rfl, hB1, hop1⟩ := hcut
  have d0 := (HG.out wc hB1).cell.1
  have ds := (HG.out wc hB1).sub
  rw [HN.out] at d0 ds
  rw [HTA.out] at ds
  clear dt hA
  go_upto_if 57 with fail
  go_cut [7] from 43 to 69 (fun s7 wx => s7 = .string (str ta) ∧ Below w.heap.size w wx ∧ wx.heap[w.heap.size]? = some (.cells (opC 8 a b c S T) 30))
  case first =>
    by_cases h1 : n < 2
    · have hd : decide ((2 : Int) ≤ n) = false := decide_eq_false (by omega)
      have hbe : ta = [] := by rw [← HTA.out]; unfold aT; rw [HN.out, if_pos h1]
      go_wp2_with fail
      go_meet
      exact ⟨by rw [hbe]; rfl, hB1, hop1⟩
    · have hd : decide ((2 : Int) ≤ n) = true := decide_eq_true (by omega)
      have d1 := ds h1
      clear ds
      go_wp2_with fail
      go_region
      go_wp2_with fail
      go_meet
      exact ⟨rfl, below_drew hB1, hop1⟩
  case rest =>
  obtain ⟨rfl, hB2, hop2⟩ := hcut
  obtain ⟨e0, e1, e2, e4⟩ := opC_cell hop2
  clear ds d0 hop1 hB1
  have d0 := (HG.out wc hB2).cell.1
  rw [HN.out] at d0
  have hvn := HN.out
  by_cases h2 : n < 1
  · have hd : decide ((n : Int) < 1) = true := decide_eq_true (by omega)
    have HR : Hid (foldF vs = (4, vs)) := by unfold foldF; rw [if_pos (by omega)]; exact rfl
    clear hvn
    go_wp2_with fail
    go_ret3
    exact ⟨0, [], 4, none, 0, 0, rfl, hB2, (fun e => by cases e), (fun _ => ⟨Nat.zero_le _, by simp⟩), by rw [HR.out]; exact fin_err _ _ _ (by decide)⟩
  have hd : decide ((n : Int) < 1) = false := decide_eq_false (by omega)
  have ET : text (top vs) = tb := by rw [← HTB.out]; unfold bT; rw [if_neg (by omega)]
  have hwt : Wf (top vs) := hwf _ (List.mem_of_getElem? (top_at (by omega)))
  have H5 : Hid (¬ 5 < vs.length - 1 + 1) := by show ¬ 5 < vs.length - 1 + 1; omega
  have hcc := canI_at hwt (by rw [ET]; omega)
  have q4 := canI_iter hwt
  rw [ET] at hcc
  have hc := hide hcc
  have h0v : ¬ vs.length = 0 := by omega
  clear hvn hcc hwf
  by_cases hit : canIter (top vs) = true
  · rw [hit] at q4
    have HR : Hid (foldF vs = match parts (top vs) with
     | [] => (8, vs)
     | v :: r => if (foldIn v r).1 ≠ 0 then ((foldIn v r).1, vs) else lay 1 (foldIn v r).2 vs) := by
      show foldF vs = _
      unfold foldF; rw [if_neg h0v, if_pos hit]; rfl
    have hpp := parts_at hwt hit (by rw [ET]; omega)
    have hps := (partsLe hwt hit)
    rw [ET] at hpp hps
    have hpl := hps.2
    have hp := hide hpp
    have HPS := hide hps.1
    clear hpp hps hwt ET hit h0v
    generalize kind (top vs) = kk at *
    generalize parts (top vs) = P at *
    cases P with
    | nil =>
      go_wp2_with (first | (go_at_call 65; refine (hc.out _ (by decide) _).mono ?_; rintro e w' ⟨rfl, hw⟩; subst w') | (go_at_call 66; refine (hp.out _).mono ?_; rintro e w1 ⟨ad, cap, rfl, hs1, hb1⟩))
      go_ret3
      exact ⟨0, [], 8, none, 0, 0, rfl, below_next hB2 hb1, (fun e => by cases e), (fun _ => ⟨Nat.zero_le _, by simp⟩), by rw [HR.out]; exact fin_err _ _ _ (by decide)⟩
    | cons v0 P0 =>
      have HP : Hid (∀ W, Calls Try.prog 66 #[.string (str tb)] W fun e w' => ∃ g cap, e = .returned (.slice (some ⟨g, 0, none⟩) (P0.length + 1) cap) ∧ W.heap.size ≤ g ∧ (∀ (i : Nat) (v : V), (v0 :: P0)[i]? = some v → w'.cell? ⟨g, i, none⟩ = some (.string (str (text v)))) ∧ g < w'.heap.size ∧ Below W.heap.size W w') := fun W => by
        refine (hp.out W).mono ?_
        rintro e w' ⟨ad, cap, rfl, hs, hb⟩
        obtain ⟨g, cap', e1, hg, hcl⟩ := hs.at (by simp)
        cases e1
        refine ⟨g, cap, rfl, hg, hcl, ?_, hb⟩
        have h0 := hcl 0 v0 rfl
        by_cases hlt : g < w'.heap.size
        · exact hlt
        · simp [World.cell?, Array.getElem?_eq_none (by omega : w'.heap.size ≤ g)] at h0
      have hne : ((P0.length : Int) + 1 == 0) = false := beq_false_of_ne (by omega)
      clear hp
      generalize hpl1 : P0.length = m at *
      go_wp2_with (first | (go_at_call 65; refine (hc.out _ (by decide) _).mono ?_; rintro e w' ⟨rfl, hw⟩; subst w') | (go_at_call 66; refine (HP.out _).mono ?_; rintro e w1 ⟨g, cap, rfl, hg, hcl, hgl, hb1⟩; have HCL := hide hcl; have c0 := hcl 0 v0 rfl; clear hcl))
      have hB3 := below_next hB2 hb1
      have HP1 : Hid (P0.length = m) := hpl1
      clear hpl1
      have w0 := HPS.out v0 (by simp)
      go_loopw [24, 25] (fun tt x W => ∃ (j : Nat) (acc : V), x = .int .i64 j ∧ 1 ≤ j ∧ j ≤ m + 1 ∧ tt = .string (str (text acc)) ∧ Wf acc ∧ (text acc).length ≤ 30 ∧ foldIn v0 P0 = foldIn acc ((v0 :: P0).drop j) ∧ Below w1.heap.size w1 W) (fun tt x W => m + 1 - (intOf x).toNat)
      case atStart => exact ⟨1, v0, rfl, Nat.le_refl _, by omega, rfl, w0.1, by omega, rfl, Below.refl _ _⟩
      case round =>
        obtain ⟨j, acc, rfl, hj1, hj, rfl, hwa, hla, hfi, hbw⟩ := hrel
        have hB4 := below_next hB3 hbw
        by_cases hjl : j < m + 1
        · obtain ⟨v, hv⟩ : ∃ v, (v0 :: P0)[j]? = some v := ⟨_, List.getElem?_eq_getElem (by simp [HP1.out]; omega)⟩
          have hd1 : decide ((j : Int) < (m : Int) + 1) = true := decide_eq_true (by omega)
          have c1 : wr.cell? ⟨g, j, none⟩ = some (.string (str (text v))) := (hbw.cell hgl).trans (HCL.out j v hv)
          have wv := HPS.out v (List.mem_of_getElem? hv)
          have hss := sum_calls (b := v) wr hwa wv.1 hla (by omega)
          have HST := foldIn_step (acc := acc) hv
          rw [← hfi] at HST
          have hj30 : j ≤ 30 := by have := hpl; simp [HP1.out] at this; omega
          have HWP : Hid ((plusF acc v).1 = 0 → Wf (plusF acc v).2 ∧ (text (plusF acc v).2).length ≤ 30) := fun e => ⟨wf_plus hwa wv.1 e, plusF_text e⟩
          have hlv : (text v).length ≤ 30 := by omega
          unfold SumOut at hss
          have HTX : Hid ((plusF acc v).1 = 0 → text (plusF acc v).2 = if (plusF acc v).1 = 0 then text (plusF acc v).2 else []) := fun e => by rw [if_pos e]
          replace hss := hide hss
          replace HST := hide HST
          clear hfi hv hwa wv
          generalize text acc = tc at *
          generalize text v = tv at *
          generalize plusF acc v = q at *
          generalize (if q.1 = 0 then text q.2 else []) = tt at *
          by_cases hq : q.1 = 0
          · have hq1 : (q.1 != 0) = false := by simp [hq]
            go_wp2_with (go_at_call 64; refine hss.out.mono ?_; rintro e w2 ⟨rfl, hb2⟩)
            have hWP := HWP.out hq
            have hFI := HST.out
            rw [if_neg (by simp [hq])] at hFI
            go_roundw
            case rel => exact ⟨j + 1, q.2, by go_num, by omega, by omega, by rw [HTX.out hq], hWP.1, hWP.2, hFI, below_next hbw hb2⟩
            case measure => simp [intOf]; omega
          · have hq1 : (q.1 != 0) = true := by simpa using hq
            go_wp2_with (go_at_call 64; refine hss.out.mono ?_; rintro e w2 ⟨rfl, hb2⟩)
            go_ret3
            have hFI := HST.out
            rw [if_pos hq] at hFI
            refine ⟨0, [], q.1, none, 0, 0, rfl, below_next hB4 hb2, (fun e => absurd e hq), (fun _ => ⟨Nat.zero_le _, by simp⟩), ?_⟩
            rw [HR.out]
            show _ = if (foldIn v0 P0).1 ≠ 0 then ((foldIn v0 P0).1, vs) else lay 1 (foldIn v0 P0).2 vs
            rw [hFI]
            show _ = if q.1 ≠ 0 then (q.1, vs) else _
            rw [if_pos hq]
            exact fin_err _ _ _ hq
        · have e : j = m + 1 := by omega
          subst e
          have hd1 : decide ((m : Int) + 1 < (m : Int) + 1) = false := decide_eq_false (by omega)
          have HFI : Hid (foldIn v0 P0 = (0, acc)) := by
            show foldIn v0 P0 = _
            rw [hfi, List.drop_of_length_le (by simp [HP1.out])]; rfl
          clear hfi hwa
          generalize hta : text acc = tc at *
          have HTC := hide hta
          clear hta
          go_wp2
          go_ret3
          refine ⟨1, [acc], 0, _, 1, 1, rfl, below_alloc hB4, fun _ => strs_one ?_ hB4.size, (fun _ => ⟨by rw [HN.out]; omega, by simp⟩), ?_⟩
          · rw [HTC.out]; exact heap_alloc_new _ _
          · rw [HR.out]
            show _ = if (foldIn v0 P0).1 ≠ 0 then ((foldIn v0 P0).1, vs) else lay 1 (foldIn v0 P0).2 vs
            rw [HFI.out, fin_one, if_neg (by rw [HTC.out]; omega), if_neg H5.out]
            rfl
  · have hcf : canIter (top vs) = false := by simpa using hit
    have HR : Hid (foldF vs = (5, vs)) := by
      show foldF vs = _
      unfold foldF; rw [if_neg h0v, if_neg hit]
    rw [hcf] at q4
    clear hwt hit ET
    generalize kind (top vs) = kk at *
    go_wp2_with (go_at_call 65; refine (hc.out _ (by decide) _).mono ?_; rintro e w' ⟨rfl, hw⟩; subst w')
    go_ret3
    exact ⟨0, [], 5, none, 0, 0, rfl, hB2, (fun e => by cases e), (fun _ => ⟨Nat.zero_le _, by simp⟩), by rw [HR.out]; exact fin_err _ _ _ (by decide)⟩
end
end Go.Proofs.Qxb6500606a
