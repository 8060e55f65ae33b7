/-
  Keeps: Owes, kind by kind. (Seat 606 alone.)
-/
import Derived.Test.Qxb6500606aKPlain
namespace Go.Proofs.Qxb6500606a
open Go.ChangeShapes Go.WideShapes Go.ChangeAt Go.RowKit
attribute [local go_sem] str_size str_app str_app1 str_1app str_toList str_get
set_option linter.unusedVariables false

section
variable {w : World} {G : Nat} {vs : St}
set_option maxRecDepth 100000 in
set_option maxHeartbeats 2000000 in
theorem owes_neg (h : GhostAt w G vs) (hok : Okay vs) (hwf : ∀ v ∈ vs, Wf v) (a b c : Int) (S T : List UInt8) :
    Calls Try.prog 31 #[.pointer (some ⟨G, 0, none⟩), opV 5 a b c S T] w (OwesOut w vs (negF vs)) := by
  have hA : Below w.heap.size w (w.alloc (.cells (opC 5 a b c S T) 30)) := below_alloc (Below.refl _ _)
  have HG : Hid (∀ w1, Below w.heap.size w w1 → GhostAt w1 G vs) := fun w1 hb => h.below hb
  have d0 := (h.below hA).cell.1
  have dt := (h.below hA).top
  have hn5 := hok.1
  have hal := aT_len hok
  have hbl := bT_len hok
  have HN : Hid (vs.length = vs.length) := rfl
  clear h
  generalize hTA : aT vs = ta at *
  generalize hTB : bT vs = tb at *
  have HTA := hide hTA
  have HTB := hide hTB
  clear hTA hTB
  generalize hn : vs.length = n at *
  replace HN := hide hn
  replace HN : Hid (vs.length = n) := hn
  clear hn
  unfold opV
  unfold opC at hA d0 dt
  go_enter Try.func31, Try.ntmps31
  go_upto_if 42 with fail
  go_cut [8] from 38 to 57 (fun s8 wx => s8 = .string (str tb) ∧ Below w.heap.size w wx ∧ wx.heap[w.heap.size]? = some (.cells (opC 5 a b c S T) 30))
  case first =>
    by_cases h1 : n < 1
    · have hd : decide ((1 : Int) ≤ n) = false := decide_eq_false (by omega)
      have hbe : tb = [] := by rw [← HTB.out]; unfold bT; rw [HN.out, if_pos h1]
      go_wp2_with fail
      go_meet
      exact ⟨by rw [hbe]; rfl, hA, heap_alloc_new _ _⟩
    · have hd : decide ((1 : Int) ≤ n) = true := decide_eq_true (by omega)
      have d1 := dt h1
      clear dt
      go_wp2_with fail
      go_region
      go_wp2_with fail
      go_meet
      exact ⟨rfl, below_drew hA, heap_alloc_new _ _⟩
  case rest =>
  obtain ⟨rfl, hB1, hop1⟩ := hcut
  have d0 := (HG.out wc hB1).cell.1
  have ds := (HG.out wc hB1).sub
  rw [HN.out] at d0 ds
  rw [HTA.out] at ds
  clear dt hA
  go_upto_if 57 with fail
  go_cut [7] from 43 to 69 (fun s7 wx => s7 = .string (str ta) ∧ Below w.heap.size w wx ∧ wx.heap[w.heap.size]? = some (.cells (opC 5 a b c S T) 30))
  case first =>
    by_cases h1 : n < 2
    · have hd : decide ((2 : Int) ≤ n) = false := decide_eq_false (by omega)
      have hbe : ta = [] := by rw [← HTA.out]; unfold aT; rw [HN.out, if_pos h1]
      go_wp2_with fail
      go_meet
      exact ⟨by rw [hbe]; rfl, hB1, hop1⟩
    · have hd : decide ((2 : Int) ≤ n) = true := decide_eq_true (by omega)
      have d1 := ds h1
      clear ds
      go_wp2_with fail
      go_region
      go_wp2_with fail
      go_meet
      exact ⟨rfl, below_drew hB1, hop1⟩
  case rest =>
  obtain ⟨rfl, hB2, hop2⟩ := hcut
  obtain ⟨e0, e1, e2, e4⟩ := opC_cell hop2
  clear ds d0 hop1 hB1
  have d0 := (HG.out wc hB2).cell.1
  rw [HN.out] at d0
  have hvn := HN.out
  by_cases h2 : n < 1
  · have hd : decide ((n : Int) < 1) = true := decide_eq_true (by omega)
    have HR : Hid (negF vs = (4, vs)) := by unfold negF; rw [if_pos (by omega)]; exact rfl
    clear hvn
    go_wp2_with fail
    go_ret3
    exact ⟨0, [], 4, none, 0, 0, rfl, hB2, (fun e => by cases e), (fun _ => ⟨Nat.zero_le _, by simp⟩), by rw [HR.out]; exact fin_err _ _ _ (by decide)⟩
  have hd : decide ((n : Int) < 1) = false := decide_eq_false (by omega)
  have ET : text (top vs) = tb := by rw [← HTB.out]; unfold bT; rw [if_neg (by omega)]
  have hwt : Wf (top vs) := hwf _ (List.mem_of_getElem? (top_at (by omega)))
  have HR : Hid (negF vs = if canNeg (top vs) then lay 1 (negV (top vs)) vs else (5, vs)) := by unfold negF; rw [if_neg (by omega)]; exact rfl
  have H5 : Hid (¬ 5 < vs.length - 1 + 1) := by show ¬ 5 < vs.length - 1 + 1; omega
  have hcc := can_at hwt (by rw [ET]; omega) 2 (.inr (.inl rfl))
  have hcn : canT (kind (top vs)) 2 = canNeg (top vs) := by unfold canNeg; rcases kinds5 hwt with e | e | e | e <;> rw [e] <;> rfl
  rw [ET, hcn] at hcc
  have hc := hide hcc
  clear hvn hcc hcn hwf
  by_cases hcan : canNeg (top vs) = true
  · rw [hcan] at hc HR
    rcases wf_cases hwt with e | ⟨x, e, hx⟩ | ⟨s, e⟩ | ⟨l, r, e, _⟩ | ⟨l, r, e, hl, hr⟩
    · rw [e] at hcan; cases hcan
    · rw [e] at ET
      rw [text_int] at ET
      have hnum := numOf_calls x hx
      have hit := hide (itoa_calls (wr (0 - x)) wc (wr_i64 _))
      have hwr : wrap64 (-x) = wr (0 - x) := by rw [← wr_eq]; congr 1; omega
      have hwr2 : wrap64 (0 - x) = wr (0 - x) := wr_eq _
      generalize hwx : wr (0 - x) = wx at *
      have hwi : I64 wx := by rw [← hwx]; exact wr_i64 _
      have hpos : 0 < tb.length := by rw [← ET]; obtain ⟨ch, rr, h1, _⟩ := itoa_cons x hx; rw [h1]; simp
      obtain ⟨ch, h0⟩ : ∃ ch, tb[0] = ch := ⟨_, rfl⟩
      have hch : ((ch.toNat : Int) == 60) = false := by
        obtain ⟨c1, r1, h1, h2⟩ := itoa_cons x hx
        obtain ⟨_, h60, _⟩ := dig_ne h2
        have e1 : ch = c1 := by rw [← h0]; simp only [← ET, h1]; rfl
        have : ch.toNat ≠ 60 := fun q => by
          have q2 : ch = 60 := UInt8.toNat_inj.1 q
          rw [e1] at q2
          first | exact h60 q2 | (subst q2; revert h2; decide)
        simp; omega
      have HT : Hid (negV (top vs) = vint wx) := by rw [e, ← hwx]; exact rfl
      have HL := hide (text_vint (wx))
      rw [ET] at hnum
      have hn := hide hnum
      rw [text_int] at HL
      clear hnum hcan hwt e ET hwx hwi
      generalize hib : itoa (wx) = ib at *
      have HIB := hide hib
      clear hib
      go_wp2_with (first | (go_at_call 65; refine (hc.out _).mono ?_; rintro e w' ⟨rfl, hw⟩; subst w') | (go_at_call 32; refine (hn.out _).mono ?_; rintro e w' ⟨rfl, hw⟩; subst w') | (go_at_call 33; refine hit.out.mono ?_; rintro e w1 ⟨rfl, hb1⟩))
      go_ret3
      have hB3 := below_next hB2 hb1
      refine ⟨1, [vint (wx)], 0, _, 1, 1, rfl, below_alloc hB3, fun _ => strs_one ?_ hB3.size, (fun _ => ⟨by rw [HN.out]; omega, by simp⟩), ?_⟩
      · rw [text_int, HIB.out]; exact heap_alloc_new _ _
      · rw [HR.out, if_pos (by simp), HT.out, fin_one, if_neg H5.out, if_neg]
        rw [text_int, HIB.out]; have := HL.out; omega
    · rw [e] at hcan; cases hcan
    · rw [e] at hcan; cases hcan
    · have hci : canIter (top vs) = true := by rw [e]; rfl
      have hpp := parts_at hwt hci (by rw [ET]; omega)
      have hps := (partsLe hwt hci).1
      have hpe : parts (top vs) = [l, r] := by rw [e]; rfl
      rw [hpe] at hpp hps
      rw [ET] at hpp hps
      have HP : Hid (∀ W, Calls Try.prog 66 #[.string (str tb)] W fun e w' => ∃ g cap, e = .returned (.slice (some ⟨g, 0, none⟩) 2 cap) ∧ w'.cell? ⟨g, 0, none⟩ = some (.string (str (text l))) ∧ w'.cell? ⟨g, 1, none⟩ = some (.string (str (text r))) ∧ Below W.heap.size W w') := fun W => by
        refine (hpp W).mono ?_
        rintro e w' ⟨ad, cap, rfl, hs, hb⟩
        obtain ⟨g, cap', e1, _, hcl⟩ := hs.at (by simp)
        cases e1
        exact ⟨g, cap, rfl, hcl 0 l rfl, hcl 1 r rfl, hb⟩
      have hll := (hps l (by simp)).2
      have hlr := (hps r (by simp)).2
      have hpos : 0 < tb.length := by rw [← ET, e, text_pair]; simp
      have h0 : tb[0] = 60 := by simp only [← ET, e, text_pair]; rfl
      have HT : Hid (negV (top vs) = vpair r l) := by rw [e]; exact rfl
      have hsz : (text (vpair r l)).length = tb.length := by rw [← ET, e, text_pair, text_pair]; simp; omega
      have HX := hide (text_pair r l)
      have HSZ := hide hsz
      clear hpp hps hpe hci hcan hwt e ET hsz
      generalize text l = tl at *
      generalize text r = tr at *
      go_wp2_with (first | (go_at_call 65; refine (hc.out _).mono ?_; rintro e w' ⟨rfl, hw⟩; subst w') | (go_at_call 66; refine (HP.out _).mono ?_; rintro e w1 ⟨g, cap, rfl, c0, c1, hb1⟩))
      go_region
      go_wp2_with fail
      go_ret3
      have hB3 := below_next hB2 hb1
      refine ⟨1, [vpair r l], 0, _, 1, 1, rfl, below_drew (below_alloc hB3), fun _ => strs_one ?_ hB3.size, (fun _ => ⟨by rw [HN.out]; omega, by simp⟩), ?_⟩
      · rw [HX.out]; exact heap_alloc_new _ _
      · rw [HR.out, if_pos (by simp), HT.out, fin_one, if_neg H5.out, if_neg]
        rw [HSZ.out]; omega
  · have hcf : canNeg (top vs) = false := by simpa using hcan
    rw [hcf] at hc HR
    clear hwt hcan ET
    go_wp2_with (go_at_call 65; refine (hc.out _).mono ?_; rintro e w' ⟨rfl, hw⟩; subst w')
    go_ret3
    exact ⟨0, [], 5, none, 0, 0, rfl, hB2, (fun e => by cases e), (fun _ => ⟨Nat.zero_le _, by simp⟩), by rw [HR.out]; exact fin_err _ _ _ (by decide)⟩
set_option maxRecDepth 100000 in
set_option maxHeartbeats 2000000 in
theorem owes_len (h : GhostAt w G vs) (hok : Okay vs) (hwf : ∀ v ∈ vs, Wf v) (a b c : Int) (S T : List UInt8) :
    Calls Try.prog 31 #[.pointer (some ⟨G, 0, none⟩), opV 6 a b c S T] w (OwesOut w vs (lenF vs)) := by
  have hA : Below w.heap.size w (w.alloc (.cells (opC 6 a b c S T) 30)) := below_alloc (Below.refl _ _)
  have HG : Hid (∀ w1, Below w.heap.size w w1 → GhostAt w1 G vs) := fun w1 hb => h.below hb
  have d0 := (h.below hA).cell.1
  have dt := (h.below hA).top
  have hn5 := hok.1
  have hal := aT_len hok
  have hbl := bT_len hok
  have HN : Hid (vs.length = vs.length) := rfl
  clear h
  generalize hTA : aT vs = ta at *
  generalize hTB : bT vs = tb at *
  have HTA := hide hTA
  have HTB := hide hTB
  clear hTA hTB
  generalize hn : vs.length = n at *
  replace HN := hide hn
  replace HN : Hid (vs.length = n) := hn
  clear hn
  unfold opV
  unfold opC at hA d0 dt
  go_enter Try.func31, Try.ntmps31
  go_upto_if 42 with fail
  go_cut [8] from 38 to 57 (fun s8 wx => s8 = .string (str tb) ∧ Below w.heap.size w wx ∧ wx.heap[w.heap.size]? = some (.cells (opC 6 a b c S T) 30))
  case first =>
    by_cases h1 : n < 1
    · have hd : decide ((1 : Int) ≤ n) = false := decide_eq_false (by omega)
      have hbe : tb = [] := by rw [← HTB.out]; unfold bT; rw [HN.out, if_pos h1]
      go_wp2_with fail
      go_meet
      exact ⟨by rw [hbe]; rfl, hA, heap_alloc_new _ _⟩
    · have hd : decide ((1 : Int) ≤ n) = true := decide_eq_true (by omega)
      have d1 := dt h1
      clear dt
      go_wp2_with fail
      go_region
      go_wp2_with fail
      go_meet
      exact ⟨rfl, below_drew hA, heap_alloc_new _ _⟩
  case rest =>
  obtain ⟨rfl, hB1, hop1⟩ := hcut
  have d0 := (HG.out wc hB1).cell.1
  have ds := (HG.out wc hB1).sub
  rw [HN.out] at d0 ds
  rw [HTA.out] at ds
  clear dt hA
  go_upto_if 57 with fail
  go_cut [7] from 43 to 69 (fun s7 wx => s7 = .string (str ta) ∧ Below w.heap.size w wx ∧ wx.heap[w.heap.size]? = some (.cells (opC 6 a b c S T) 30))
  case first =>
    by_cases h1 : n < 2
    · have hd : decide ((2 : Int) ≤ n) = false := decide_eq_false (by omega)
      have hbe : ta = [] := by rw [← HTA.out]; unfold aT; rw [HN.out, if_pos h1]
      go_wp2_with fail
      go_meet
      exact ⟨by rw [hbe]; rfl, hB1, hop1⟩
    · have hd : decide ((2 : Int) ≤ n) = true := decide_eq_true (by omega)
      have d1 := ds h1
      clear ds
      go_wp2_with fail
      go_region
      go_wp2_with fail
      go_meet
      exact ⟨rfl, below_drew hB1, hop1⟩
  case rest =>
  obtain ⟨rfl, hB2, hop2⟩ := hcut
  obtain ⟨e0, e1, e2, e4⟩ := opC_cell hop2
  clear ds d0 hop1 hB1
  have d0 := (HG.out wc hB2).cell.1
  rw [HN.out] at d0
  have hvn := HN.out
  by_cases h2 : n < 1
  · have hd : decide ((n : Int) < 1) = true := decide_eq_true (by omega)
    have HR : Hid (lenF vs = (4, vs)) := by unfold lenF; rw [if_pos (by omega)]; exact rfl
    clear hvn
    go_wp2_with fail
    go_ret3
    exact ⟨0, [], 4, none, 0, 0, rfl, hB2, (fun e => by cases e), (fun _ => ⟨Nat.zero_le _, by simp⟩), by rw [HR.out]; exact fin_err _ _ _ (by decide)⟩
  have hd : decide ((n : Int) < 1) = false := decide_eq_false (by omega)
  have ET : text (top vs) = tb := by rw [← HTB.out]; unfold bT; rw [if_neg (by omega)]
  have hwt : Wf (top vs) := hwf _ (List.mem_of_getElem? (top_at (by omega)))
  have HR : Hid (lenF vs = if canLen (top vs) then lay 1 (vint (lenV (top vs))) vs else (5, vs)) := by unfold lenF; rw [if_neg (by omega)]; exact rfl
  have H5 : Hid (¬ 5 < vs.length - 1 + 1) := by show ¬ 5 < vs.length - 1 + 1; omega
  have HF : Hid (∀ x : Int, fin vs 1 [vint x] 0 = lay 1 (vint x) vs) := fun x => by
    rw [fin_one, if_neg (by have := text_vint x; omega), if_neg (by omega)]
  have hcc := canI_at hwt (by rw [ET]; omega)
  have q3 := canI_len hwt
  have q4 := canI_iter hwt
  rw [ET] at hcc
  have hc := hide hcc
  have hst := hide (stop_calls tb 0 (Nat.zero_le _) (by omega))
  have hsl := stopF_le tb
  clear hvn hcc hwf
  by_cases hcan : canLen (top vs) = true
  · rw [hcan] at q3 HR
    by_cases hit : canIter (top vs) = true
    · rw [hit] at q4
      have hpp := parts_at hwt hit (by rw [ET]; omega)
      have hpl := (partsLe hwt hit).2
      rw [ET] at hpp hpl
      have HLV := hide (lenV_parts hwt hit)
      have hp := hide hpp
      clear hpp hwt ET hcan
      generalize hm : (parts (top vs)).length = m at *
      have hita := hide (fun W => itoa_calls m W (nat_i64 (by omega)))
      have hm1 : ((m : Int)) ≤ 30 := by omega
      generalize stopF tb 0 = st at *
      generalize hib : itoa (m : Int) = ib at *
      have HIB := hide hib
      have HM := hide hm
      clear hib hm
      generalize kind (top vs) = kk at *
      go_wp2_with (first | (go_at_call 65; refine (hc.out _ (by decide) _).mono ?_; rintro e w' ⟨rfl, hw⟩; subst w') | (go_at_call 67; refine (hst.out _).mono ?_; rintro e w' ⟨rfl, hw⟩; subst w') | (go_at_call 66; refine (hp.out _).mono ?_; rintro e w1 ⟨ad, cap, rfl, hs1, hb1⟩) | (go_at_call 33; refine (hita.out _).mono ?_; rintro e w2 ⟨rfl, hb2⟩))
      go_ret3
      have hB3 := below_next (below_next hB2 hb1) hb2
      refine ⟨1, [vint m], 0, _, 1, 1, rfl, below_alloc hB3, fun _ => strs_one ?_ hB3.size, (fun _ => ⟨by rw [HN.out]; omega, by simp⟩), ?_⟩
      · rw [text_int, HIB.out]; exact heap_alloc_new _ _
      · rw [HR.out, if_pos (by simp), HLV.out]; exact HF.out _
    · have hif : canIter (top vs) = false := by simpa using hit
      rw [hif] at q4
      rcases wf_cases hwt with e | ⟨x, e, hx⟩ | ⟨s, e⟩ | ⟨l, r, e, _⟩ | ⟨l, r, e, hl, hr⟩
      · rw [e] at hif; cases hif
      · rw [e] at hcan; cases hcan
      · have hes : stopF tb 0 = (itoa s.length).length := by
          have hsx : s.length ≤ 30 := by have := hbl; rw [← ET, e, text_str] at this; simp at this; omega
          have := stopF_digs (itoa s.length) [] (58 :: s) (itoa_dig _ (nat_i64 (by omega))).1 (fun c hc => by simp at hc; subst hc; decide)
          rw [← ET, e, text_str]; simpa using this
        have hlt : tb.length = (itoa s.length).length + 1 + s.length := by rw [← ET, e, text_str]; simp; omega
        have HLV : Hid (lenV (top vs) = s.length) := by rw [e]; exact rfl
        rw [hes] at hst hsl
        have hsx : s.length ≤ 30 := by omega
        have hita := hide (fun W => itoa_calls s.length W (nat_i64 (by omega)))
        clear hes ET e hcan hwt hif hit
        generalize hib : itoa (s.length : Int) = ib at *
        have HIB := hide hib
        clear hib
        have hnn : (tb.length : Int) - 1 - ib.length = s.length := by omega
        have hb8 : ib.length + 1 ≤ tb.length := by omega
        clear hlt
        generalize kind (top vs) = kk at *
        go_wp2_with (first | (go_at_call 65; refine (hc.out _ (by decide) _).mono ?_; rintro e w' ⟨rfl, hw⟩; subst w') | (go_at_call 67; refine (hst.out _).mono ?_; rintro e w' ⟨rfl, hw⟩; subst w') | (go_at_call 33; refine (hita.out _).mono ?_; rintro e w2 ⟨rfl, hb2⟩))
        go_ret3
        have hB3 := below_next hB2 hb2
        refine ⟨1, [vint s.length], 0, _, 1, 1, rfl, below_alloc hB3, fun _ => strs_one ?_ hB3.size, (fun _ => ⟨by rw [HN.out]; omega, by simp⟩), ?_⟩
        · rw [text_int, HIB.out]; exact heap_alloc_new _ _
        · rw [HR.out, if_pos (by simp), HLV.out]; exact HF.out _
      · rw [e] at hif; cases hif
      · rw [e] at hif; cases hif
  · have hcf : canLen (top vs) = false := by simpa using hcan
    rw [hcf] at q3 HR
    clear hwt hcan ET hst q4
    generalize kind (top vs) = kk at *
    go_wp2_with (go_at_call 65; refine (hc.out _ (by decide) _).mono ?_; rintro e w' ⟨rfl, hw⟩; subst w')
    go_ret3
    exact ⟨0, [], 5, none, 0, 0, rfl, hB2, (fun e => by cases e), (fun _ => ⟨Nat.zero_le _, by simp⟩), by rw [HR.out]; exact fin_err _ _ _ (by decide)⟩
end
end Go.Proofs.Qxb6500606a
