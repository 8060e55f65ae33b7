/-
  Keeps: Kept. (Seat 606 alone.)
-/
import Derived.Test.Qxb6500606aKKept
import Derived.Test.Qxb6500606aKOwesAll
import Derived.Test.Qxb6500606aKit
import Derived.Deep.CutBlock
namespace Go.Proofs.Qxb6500606a
open Go.ChangeShapes Go.WideShapes Go.ChangeAt Go.RowKit
attribute [local go_sem] str_size str_app str_app1 str_1app str_toList str_get
set_option linter.unusedVariables false

/-- What Kept leaves. -/
def KeptOut (w : World) (s G : Nat) (g : Option Nat) (vs' : St) (w' : World) : Prop := ∃ g', Stk w' s g' false vs' ∧ Grew w g g' ∧ GhostAt w' G vs' ∧ Only (fun b => own s g b ∨ b = G) w w'
section
variable {w : World} {s G : Nat} {g : Option Nat} {vs : St}
set_option maxRecDepth 100000 in
set_option maxHeartbeats 4000000 in
theorem kept_calls (hs : Stk w s g false vs) (hg : GhostAt w G vs) (hok : Okay vs) (k a b c : Int) (S T : List UInt8) (hb : I64 b) (q : Bool) :
    Calls Try.prog 24 #[.pointer (some ⟨s, 0, none⟩), .pointer (some ⟨G, 0, none⟩), opV k a b c S T, .bool q] w fun e w' => e = .returned (.bool true) ∧ KeptOut w s G g (doF k a b S vs).2 w' := by
  have hA : Below w.heap.size w (w.alloc (.cells (opC k a b c S T) 30)) := below_alloc (Below.refl _ _)
  have how := hide (owes_calls (hg.below hA) hok (stk_wf hs) k a b c S T hb)
  have HS := hide hs
  have HG := hide hg
  have HOK := hide hok
  have hn5 := hok.1
  have hop : (w.alloc (.cells (opC k a b c S T) 30)).heap[w.heap.size]? = some (.cells (opC k a b c S T) 30) := heap_alloc_new _ _
  clear hs hg hok
  unfold opV at how ⊢
  generalize hR : doF k a b S vs = R at *
  have HR := hide hR
  clear hR
  have HAA := hide hA
  have HOP := hide hop
  unfold opC at hA hop how
  clear hA hop
  go_enter Try.func24, Try.ntmps24
  go_upto_block 0 with (first | (go_at_call 31; refine how.out.mono ?_; rintro e w1 ⟨drop, outs, er, ad, n, cap, rfl, hb1, hst, hdr, hfin⟩))
  have hB1 := below_next HAA.out hb1
  have HFIN := hide hfin
  have HDR := hide hdr
  have HST := hide hst
  have HE1 : Hid (e1F outs er = if er ≠ 0 then er else if outs.any (fun v => decide (30 < (text v).length)) then 7 else 0) := rfl
  clear hfin hdr hst
  generalize hq1 : e1F outs er = er1 at *
  have HQ1 := hide hq1
  clear hq1
  go_cut [11, 12] from 25 to 40 (fun s11 s12 wx => s11 = .int .i64 er1 ∧ wx = w1)
  case first =>
    by_cases her : er = 0
    · subst her
      have hst := HST.out rfl
      have hnl : n = outs.length := by
        rcases hst.2 with ⟨e, hn⟩ | ⟨g1, cap1, cur1, e, _⟩
        · cases e; omega
        · cases e; rfl
      subst hnl
      have HAT : Hid (outs ≠ [] → ∃ g1, ad = some ⟨g1, 0, none⟩ ∧ ∀ (i : Nat) (v : V), outs[i]? = some v → w1.cell? ⟨g1, i, none⟩ = some (.string (str (text v)))) := fun hne => by
        obtain ⟨g1, cap1, e, _, hcl⟩ := hst.at hne
        cases e
        exact ⟨g1, rfl, hcl⟩
      have hml : outs.length ≤ 9223372036854775807 := by
        rcases hst.2 with ⟨e, hn⟩ | ⟨g1, cap1, cur1, e, _, _, h1, h2, _⟩
        · omega
        · unfold maxLen at h2; omega
      have HE2 : Hid (er1 = if outs.any (fun v => decide (30 < (text v).length)) then 7 else 0) := by
        show er1 = _
        rw [HE1.out, if_neg (by simp)]
      clear hst
      go_wp2_with fail
      go_loop [11, 12] (fun e x => ∃ j : Nat, x = .int .i64 j ∧ j ≤ outs.length ∧ ((e = .int .i64 0 ∧ er1 = if (outs.drop j).any (fun v => decide (30 < (text v).length)) then 7 else 0) ∨ (e = .int .i64 7 ∧ er1 = 7))) (fun e x => outs.length - (intOf x).toNat)
      case atStart => exact ⟨0, rfl, Nat.zero_le _, .inl ⟨rfl, HE2.out⟩⟩
      case round =>
        obtain ⟨j, rfl, hj, hcase⟩ := hrel
        rcases hcase with ⟨rfl, hany⟩ | ⟨rfl, h7⟩
        · by_cases hjl : j < outs.length
          · obtain ⟨v, hv⟩ : ∃ v, outs[j]? = some v := ⟨_, List.getElem?_eq_getElem hjl⟩
            obtain ⟨g1, rfl, hcl⟩ := HAT.out (by intro e; rw [e] at hjl; simp at hjl)
            have c0 := hcl j v hv
            have hd1 : decide ((j : Int) < outs.length) = true := decide_eq_true (by omega)
            rw [List.drop_eq_getElem_cons hjl, (List.getElem?_eq_some_iff.1 hv).2] at hany
            have HANY := hide hany
            clear hany hcl hv
            by_cases hbig : 30 < (text v).length
            · have hd2 : decide (((text v).length : Int) > 30) = true := decide_eq_true (by omega)
              have H7 : Hid (er1 = 7) := by show er1 = 7; rw [HANY.out, if_pos (by simp [hbig])]
              generalize text v = tv at *
              go_wp2
              go_round
              case rel => exact ⟨j + 1, by go_num, by omega, .inr ⟨rfl, H7.out⟩⟩
              case measure => simp [intOf]; omega
            · have hd2 : decide (((text v).length : Int) > 30) = false := decide_eq_false (by omega)
              have HN : Hid (er1 = if (outs.drop (j + 1)).any (fun v => decide (30 < (text v).length)) then 7 else 0) := by
                show er1 = _
                rw [HANY.out, List.any_cons, decide_eq_false hbig, Bool.false_or]
              generalize text v = tv at *
              go_wp2
              go_round
              case rel => exact ⟨j + 1, by go_num, by omega, .inl ⟨rfl, HN.out⟩⟩
              case measure => simp [intOf]; omega
          · have hd1 : decide ((j : Int) < outs.length) = false := decide_eq_false (by omega)
            have H0 : Hid (er1 = 0) := by show er1 = 0; rw [hany, List.drop_of_length_le (by omega)]; rfl
            clear hany
            go_wp2
            go_meet
            exact ⟨by rw [H0.out], rfl⟩
        · have H7 := hide h7
          clear h7
          by_cases hjl : j < outs.length
          · have hd1 : decide ((j : Int) < outs.length) = true := decide_eq_true (by omega)
            go_wp2
            go_meet
            exact ⟨by rw [H7.out], rfl⟩
          · have hd1 : decide ((j : Int) < outs.length) = false := decide_eq_false (by omega)
            go_wp2
            go_meet
            exact ⟨by rw [H7.out], rfl⟩
    · have HX : Hid (er1 = er) := by show er1 = er; rw [HE1.out, if_pos her]
      have hq0 : (er == 0) = false := beq_false_of_ne her
      go_wp2_with fail
      go_loop [11, 12] (fun e x => e = .int .i64 er ∧ x = .int .i64 0) (fun e x => 0)
      case atStart => exact ⟨rfl, rfl⟩
      case round =>
        obtain ⟨rfl, rfl⟩ := hrel
        by_cases hjl : 0 < n
        · have hd1 : decide ((0 : Int) < n) = true := decide_eq_true (by omega)
          go_wp2
          go_meet
          exact ⟨by rw [HX.out], rfl⟩
        · have hd1 : decide ((0 : Int) < n) = false := decide_eq_false (by omega)
          go_wp2
          go_meet
          exact ⟨by rw [HX.out], rfl⟩
  case rest =>
  obtain ⟨rfl, hwc⟩ := hcut
  subst wc
  have hgw := (HG.out.below hB1)
  have d0 := hgw.cell.1
  have HSP := fin_split HFIN.out
  rw [HQ1.out] at HSP
  have HNL : Hid (er = 0 → n = outs.length) := fun e0 => by
    have hst := HST.out e0
    rcases hst.2 with ⟨e, hn⟩ | ⟨g1, cap1, cur1, e, _⟩
    · cases e; omega
    · cases e; rfl
  have HGW := hide hgw
  replace HSP := hide HSP
  clear hgw
  go_upto_region 7 with fail
  go_cut [54] from 41 to 54 (fun s54 wx => s54 = .bool (decide (er1 = 0 ∧ 5 < vs.length - drop + outs.length)) ∧ wx = w1)
  case first =>
    rcases HSP.out with ⟨h1, h2, h3⟩ | ⟨h1, h2, h3, h4, h5⟩ | ⟨h1, h2, h3, h4, h5⟩
    · have hq0 : (er1 == 0) = false := beq_false_of_ne h1
      have HBF : Hid (decide (er1 = 0 ∧ 5 < vs.length - drop + outs.length) = false) := decide_eq_false (fun h => h1 h.1)
      clear h2 h3
      go_wp2
      go_meet
      exact ⟨by rw [HBF.out], rfl⟩
    · have HBF : Hid (decide (er1 = 0 ∧ 5 < vs.length - drop + outs.length) = true) := decide_eq_true ⟨h1, h3⟩
      have hnl := HNL.out h2
      obtain ⟨hdl, hml⟩ := HDR.out h2
      have hq0 : (er1 == 0) = true := by simp [h1]
      have hd1 : decide ((vs.length : Int) - drop + n > 5) = true := decide_eq_true (by omega)
      clear h2 h4 h5 h1
      go_wp2
      go_meet
      exact ⟨by rw [HBF.out]; exact congrArg Value.bool (decide_eq_true (by omega)), rfl⟩
    · have HBF : Hid (decide (er1 = 0 ∧ 5 < vs.length - drop + outs.length) = false) := decide_eq_false (fun h => by omega)
      have hnl := HNL.out h2
      obtain ⟨hdl, hml⟩ := HDR.out h2
      have hq0 : (er1 == 0) = true := by simp [h1]
      have hd1 : decide ((vs.length : Int) - drop + n > 5) = false := decide_eq_false (by omega)
      clear h2 h4 h5 h1
      go_wp2
      go_meet
      exact ⟨by rw [HBF.out]; exact congrArg Value.bool (decide_eq_false (by omega)), rfl⟩
  case rest =>
  obtain ⟨rfl, hwc⟩ := hcut
  subst wc
  generalize hBF : decide (er1 = 0 ∧ 5 < vs.length - drop + outs.length) = bf at *
  have HBF := hide hBF
  clear hBF
  go_upto_if 54 with fail
  go_cut [11] from 41 to 58 (fun s11 wx => s11 = .int .i64 R.1.e ∧ wx = w1)
  case first =>
    cases bf with
    | true =>
      have HX : Hid (R.1.e = 3) := by
        have hb := of_decide_eq_true HBF.out
        rcases HSP.out with ⟨h1, h2, h3⟩ | ⟨h1, h2, h3, h4, h5⟩ | ⟨h1, h2, h3, h4, h5⟩
        · exact absurd hb.1 h1
        · exact h4
        · have := hb.2; omega
      go_wp2
      go_meet
      exact ⟨by rw [HX.out], rfl⟩
    | false =>
      have HX : Hid (R.1.e = er1) := by
        have hb := of_decide_eq_false HBF.out
        rcases HSP.out with ⟨h1, h2, h3⟩ | ⟨h1, h2, h3, h4, h5⟩ | ⟨h1, h2, h3, h4, h5⟩
        · exact h2
        · exact absurd ⟨h1, h3⟩ hb
        · show R.1.e = er1; rw [h4, h1]
      go_wp2
      go_meet
      exact ⟨by rw [HX.out], rfl⟩
  case rest =>
  obtain ⟨rfl, hwc⟩ := hcut
  subst wc
  have HRR : Hid ((R.1.e ≠ 0 ∧ R.2 = vs) ∨ (R.1.e = 0 ∧ er = 0 ∧ vs.length - drop + outs.length ≤ 5 ∧ R.2 = vs.take (vs.length - drop) ++ outs)) := by
    rcases HSP.out with ⟨h1, h2, h3⟩ | ⟨h1, h2, h3, h4, h5⟩ | ⟨h1, h2, h3, h4, h5⟩
    · exact .inl ⟨by rw [h2]; exact h1, h3⟩
    · exact .inl ⟨by rw [h4]; decide, h5⟩
    · exact .inr ⟨h4, h2, h3, h5⟩
  clear HSP HBF HE1 HQ1 HFIN
  go_upto_if 58 with fail
  have hA2 : (w1.alloc (.cells (ansC R.1.e 0 []) 27)).heap[w1.heap.size]? = some (.cells (ansC R.1.e 0 []) 27) := heap_alloc_new _ _
  have hb2 : Below w1.heap.size w1 (w1.alloc (.cells (ansC R.1.e 0 []) 27)) := below_alloc (Below.refl _ _)
  have hop1 : w1.heap[w.heap.size]? = some (.cells (opC k a b c S T) 30) := (hb1.block _ (lt_of_heap HOP.out)).trans HOP.out
  have hop2 : (w1.alloc (.cells (ansC R.1.e 0 []) 27)).heap[w.heap.size]? = some (.cells (opC k a b c S T) 30) := (hb2.block _ (lt_of_heap hop1)).trans hop1
  have hgw := HGW.out.below hb2
  have hBW := below_next hB1 hb2
  have hGl := HG.out.lt
  have hAge : w.heap.size < w1.heap.size := by have := hb1.size; simp at this; omega
  have HATT : Hid (er = 0 → outs ≠ [] → ∃ g1, ad = some ⟨g1, 0, none⟩ ∧ w.heap.size ≤ g1 ∧ g1 < w1.heap.size ∧ ∀ (i : Nat) (v : V), outs[i]? = some v → w1.cell? ⟨g1, i, none⟩ = some (.string (str (text v)))) := fun e0 hne => by
    obtain ⟨g1, cap1, e, hge, hcl⟩ := (HST.out e0).at hne
    cases e
    refine ⟨g1, rfl, by simp at hge; omega, ?_, hcl⟩
    cases outs with
    | nil => exact absurd rfl hne
    | cons v0 r0 =>
      have h0 := hcl 0 v0 rfl
      by_cases hlt : g1 < w1.heap.size
      · exact hlt
      · simp [World.cell?, Array.getElem?_eq_none (by omega : w1.heap.size ≤ g1)] at h0
  unfold ansC at hA2 hb2 hop2 hgw hBW
  have HW2 : Hid (∃ W2, W2 = w1.alloc (.cells #[.int .i64 R.1.e, .int .i64 0, .int .i64 0, .string (str [])] 27)) := ⟨_, rfl⟩
  obtain ⟨W2, hW2⟩ := HW2.out
  have hW2' : w1.alloc (.cells #[.int .i64 R.1.e, .int .i64 0, .int .i64 0, .string { data := #[] }] 27) = W2 := hW2.symm
  rw [← hW2] at hA2 hb2 hop2 hgw hBW
  rw [hW2']
  clear hW2 hW2' HW2 d0
  generalize hAA : w1.heap.size = A at *
  go_cut [14] from 55 to 106 (fun s14 wx => wx.heap[A]? = some (.cells (ansC R.1.e (if k = 11 then R.1.n else 0) []) 27) ∧ GhostAt wx G R.2 ∧ Only (fun b => b = G) w wx ∧ wx.heap[w.heap.size]? = some (.cells (opC k a b c S T) 30))
  case first =>
    rcases HRR.out with ⟨h1, h2⟩ | ⟨h1, h2, h3, h4⟩
    · have hq0 : (R.1.e == 0) = false := beq_false_of_ne h1
      have HN0 : Hid ((if k = 11 then R.1.n else 0) = 0) := by
        show (if k = 11 then R.1.n else 0) = 0
        by_cases hk : k = 11
        · rw [if_pos hk]
          have hr := HR.out
          subst hk
          rw [← hr] at h1 ⊢
          have e1 : doF 11 a b S vs = (⟨(topIntF vs).2, (topIntF vs).1, []⟩, vs) := rfl
          rw [e1] at h1 ⊢
          show (topIntF vs).1 = 0
          unfold topIntF at *
          split
          · rfl
          · split
            · rename_i h8 h9; simp [h8, h9] at h1
            · rfl
        · rw [if_neg hk]
      have H2 := hide h2
      clear h1 h2
      go_wp2
      go_meet
      exact ⟨by rw [HN0.out]; exact hA2, by rw [H2.out]; exact hgw, Only.of_below hBW, hop2⟩
    · have hq0 : (R.1.e == 0) = true := by simp [h1]
      obtain ⟨hdl, hml⟩ := HDR.out h2
      have hnl : n = outs.length := by
        rcases (HST.out h2).2 with ⟨e, hn⟩ | ⟨g1, cap1, cur1, e, _⟩
        · cases e; omega
        · cases e; rfl
      subst hnl
      obtain ⟨m, hm⟩ : ∃ m : Nat, (vs.length : Int) - drop = m := ⟨vs.length - drop, by omega⟩
      have hm2 : vs.length - drop = m := by omega
      rw [hm2] at h4 h3
      have hmv : m ≤ vs.length := by omega
      have d0 := hgw.cell.1
      have z0 := hgw.cells.1 0
      have HGD := hide (hgw.drop m hmv)
      have H4 := hide h4
      have H1 := hide h1
      have HATE := HATT.out h2
      replace HATE := hide HATE
      have HH2 := hide h2
      clear h1 h2 h4 hgw HATT hm2
      go_wp2_with fail
      go_loopw [14] (fun x W => ∃ j : Nat, x = .int .i64 j ∧ j ≤ outs.length ∧ GhostAt W G (vs.take m ++ outs.take j) ∧ Only (fun b => b = G) W2 W) (fun x W => outs.length - (intOf x).toNat)
      case atStart => exact ⟨0, rfl, Nat.zero_le _, by simpa using HGD.out, Only.setCell (S := fun b => b = G) (Only.refl _ _) (p := ⟨G, 0, none⟩) (.inl rfl) _⟩
      case round =>
        obtain ⟨j, rfl, hj, hgj, hoj⟩ := hrel
        have hll : (vs.take m ++ outs.take j).length = m + j := by simp; omega
        have e0 := hgj.cell.1
        rw [hll] at e0
        by_cases hjl : j < outs.length
        · obtain ⟨v, hv⟩ : ∃ v, outs[j]? = some v := ⟨_, List.getElem?_eq_getElem hjl⟩
          obtain ⟨g1, rfl, hg1, hg2, hcl⟩ := HATE.out (by intro e; rw [e] at hjl; simp at hjl)
          have hG1 : g1 ≠ G := by omega
          have c1 : wr.cell? ⟨g1, j, none⟩ = some (.string (str (text v))) := by
            have hl2 : g1 < W2.heap.size := by have := hb2.size; omega
            have e3 : wr.heap[g1]? = w1.heap[g1]? := (hoj.block g1 hl2 hG1).trans (hb2.block g1 hg2)
            have := hcl j v hv
            simp only [World.cell?, e3] at this ⊢
            exact this
          obtain ⟨x1, c2⟩ := hgj.cells.2 (1 + (m + j)) (by omega)
          have z1 := hgj.cells.1 (1 + (m + j))
          have z2 := hgj.cells.1 0
          have hpu := hgj.push v (by omega)
          rw [hll] at hpu
          have hap : vs.take m ++ outs.take j ++ [v] = vs.take m ++ outs.take (j + 1) := by
            rw [List.take_add_one, hv, List.append_assoc]; rfl
          rw [hap] at hpu
          have HPU := hide hpu
          have hd1 : decide ((j : Int) < outs.length) = true := decide_eq_true (by omega)
          have hmj : m + j < 5 := by omega
          clear hpu hap hcl hv hgj
          generalize text v = tv at *
          go_wp2_with fail
          go_region
          go_wp2_with fail
          go_roundw
          case rel => exact ⟨j + 1, by go_num, by omega, HPU.out, Only.setCell (S := fun b => b = G) (only_drew (Only.setCell (S := fun b => b = G) hoj (p := ⟨G, 1 + (m + j), none⟩) (.inl rfl) _)) (p := ⟨G, 0, none⟩) (.inl rfl) _⟩
          case measure => simp [intOf]; omega
        · have hjn : j = outs.length := by omega
          have HGR : Hid (GhostAt wr G R.2) := by
            show GhostAt wr G R.2
            rw [H4.out]
            rw [show outs.take j = outs from List.take_of_length_le (by omega)] at hgj
            exact hgj
          have hAr : wr.heap[A]? = some (.cells (ansC R.1.e 0 []) 27) := by
            rw [hoj.block A (lt_of_heap hA2) (by omega)]; exact hA2
          have hopr : wr.heap[w.heap.size]? = some (.cells (opC k a b c S T) 30) := by
            rw [hoj.block w.heap.size (lt_of_heap hop2) (by omega)]; exact hop2
          have HOW : Hid (Only (fun b => b = G) w wr) := (Only.of_below hBW).trans hoj (fun i hi => .inl hi)
          have hd1 : decide ((j : Int) < outs.length) = false := decide_eq_false (by omega)
          have f0 := (opC_cell hopr).1
          have HAR := hide hAr
          have HOR := hide hopr
          clear hgj hoj hAr hopr e0
          by_cases hk : k = 11
          · have hr := HR.out
            subst hk
            have e1 : doF 11 a b S vs = (⟨(topIntF vs).2, (topIntF vs).1, []⟩, vs) := rfl
            rw [e1] at hr
            have h1 := H1.out
            have hR1 : R.1.n = (topIntF vs).1 := by rw [← hr]
            have hR2 : R.2 = vs := by rw [← hr]
            have hR3 : (topIntF vs).2 = 0 := by rw [← hr] at h1; exact h1
            have hvz : ¬ vs.length = 0 := by intro e; unfold topIntF at hR3; rw [if_pos e] at hR3; cases hR3
            have hkt : kind (top vs) = 1 := by
              by_cases hkk : kind (top vs) = 1
              · exact hkk
              · unfold topIntF at hR3; rw [if_neg hvz, if_neg hkk] at hR3; cases hR3
            have hRn : R.1.n = num (top vs) := by rw [hR1]; unfold topIntF; rw [if_neg hvz, if_pos hkt]
            have hgr := HGR.out
            rw [hR2] at hgr
            have d1 := hgr.top (by omega)
            have d2 := hgr.cell.1
            have hbt : bT vs = text (top vs) := by unfold bT; rw [if_neg (by omega)]
            have hwt : Wf (top vs) := stk_wf HS.out _ (List.mem_of_getElem? (top_at (by omega)))
            rcases wf_cases hwt with e | ⟨x, e, hx⟩ | ⟨s', e⟩ | ⟨l, r, e, _⟩ | ⟨l, r, e, _⟩
            · rw [e] at hkt; cases hkt
            · have hnum := numOf_calls x hx
              rw [hbt, e, text_int] at d1
              have HRN : Hid (R.1.n = x) := by show R.1.n = x; rw [hRn, e]; rfl
              have a1 : wr.cell? ⟨A, 1, none⟩ = some (.int .i64 0) := by simp [World.cell?, HAR.out, ansC]
              have za : wr.frozen? ⟨A, 1, none⟩ = false := frozen_of_row wr A 1 _ _ HAR.out
              replace hnum := hide hnum
              have HZ : Hid (((wr.setCell ⟨A, 1, none⟩ (.int .i64 x)).drew).heap[A]? = some (.cells (ansC R.1.e x []) 27)) := by
                show (wr.setCell ⟨A, 1, none⟩ (.int .i64 x)).heap[A]? = _
                rw [heap_setCell_same wr A 1 _ _ _ HAR.out]; rfl
              have hvl : (1 : Int) ≤ vs.length := by omega
              have hAG : A ≠ G := by omega
              clear hr e1 h1 hR1 hR2 hR3 hRn hgr hbt hwt hkt e
              generalize itoa x = ix at *
              clear how HS HG HOK HST HDR HNL HRR HATE HGD H4 hm hmv h3 hml hdl
              have hvl2 : ¬ vs.length < 1 := by omega
              generalize vs.length = nn at *
              obtain ⟨p, rfl⟩ : ∃ p, nn = p + 1 := ⟨nn - 1, by omega⟩
              rw [Nat.add_sub_cancel] at d1
              have hp5 : p < 5 := by omega
              have hp1 : ((p + 1 : Nat) : Int) - 1 = (p : Int) := by omega
              have hp2 : (p : Int) + 1 - 1 = (p : Int) := by omega
              have hp3 : IntKind.i64.wrap (p : Int) = (p : Int) := by rw [IntKind.wrap_i64]; omega
              have hp4 : IntKind.i64.wrap (((p + 1 : Nat) : Int) - 1) = (p : Int) := by rw [hp1]; exact hp3
              have hp5' : IntKind.i64.wrap ((p : Int) + 1 - 1) = (p : Int) := by rw [hp2]; exact hp3
              clear hn5 hvl hvl2 hvz
              go_wp2_with fail
              go_region_with (go_at_call 32; refine (hnum.out _).mono ?_; rintro e w' ⟨rfl, hw⟩; subst w')
              all_goals
                go_wp2_with fail
                go_meet
                exact ⟨by rw [if_pos (by trivial), HRN.out]; exact HZ.out, HGR.out.same (Below.heap_setCell wr _ _ G (by show G ≠ A; omega)), only_drew (Only.setCell (S := fun b => b = G) HOW.out (p := ⟨A, 1, none⟩) (.inr (by show w.heap.size ≤ A; omega)) _), (Below.heap_setCell wr _ _ w.heap.size (by show w.heap.size ≠ A; omega)).trans HOR.out⟩
            · rw [e] at hkt; cases hkt
            · rw [e] at hkt; cases hkt
            · rw [e] at hkt; cases hkt
          · have hk1 : (k == 11) = false := beq_false_of_ne hk
            go_wp2_with fail
            go_meet
            exact ⟨by rw [if_neg hk]; exact HAR.out, HGR.out, HOW.out, HOR.out⟩
  case rest =>
  obtain ⟨hA3, hG3, hO3, hop3⟩ := hcut
  have HOKR : Hid (Okay R.2) := by
    show Okay R.2
    rw [← HR.out]; exact okay_do HS.out HOK.out k a b S
  have hsh := hide (shown_calls hG3 HOKR.out)
  have f0 := (opC_cell hop3).1
  have HA3 := hide hA3
  have HG3 := hide hG3
  have HO3 := hide hO3
  have HP3 := hide hop3
  clear hA3 hG3 hO3 hop3 hA2 hop2 hgw HRR HATT hb2 hBW HST HDR HNL
  generalize hsf : showF R.2 = sf at *
  have HSF := hide hsf
  clear hsf
  go_upto_block 4 with (go_at_call 26; refine hsh.out.mono ?_; rintro e w3 ⟨rfl, hb3⟩; have f3 := (opC_cell ((hb3.block _ (lt_of_heap HP3.out)).trans HP3.out)).1)
  have hA4 := (hb3.block _ (lt_of_heap HA3.out)).trans HA3.out
  have hG4 := HG3.out.below hb3
  have hO4 : Only (fun b => b = G) w w3 := HO3.out.trans (Only.of_below (S := fun b => b = G) hb3) (fun i hi => .inl hi)
  have hop4 := (hb3.block _ (lt_of_heap HP3.out)).trans HP3.out
  have hAG : A ≠ G := by omega
  have hAw : w.heap.size ≤ A := by omega
  obtain ⟨s1, s3, a1, a3, z1, z3⟩ := ans_set hA4
  have HKG : Hid (∀ j x, GhostAt (w3.setCell ⟨A, j, none⟩ x) G R.2 ∧ Only (fun b => b = G) w (w3.setCell ⟨A, j, none⟩ x) ∧ (w3.setCell ⟨A, j, none⟩ x).heap[w.heap.size]? = some (.cells (opC k a b c S T) 30)) := fun j x =>
    ⟨hG4.same (Below.heap_setCell w3 _ _ G (by show G ≠ A; omega)), Only.setCell (S := fun b => b = G) hO4 (p := ⟨A, j, none⟩) (.inr (by show w.heap.size ≤ A; omega)) _, (Below.heap_setCell w3 _ _ w.heap.size (by show w.heap.size ≠ A; omega)).trans hop4⟩
  have HS1 := hide s1
  have HS3 := hide s3
  have g0 := hG4.cell.1
  have HA4 := hide hA4
  have HG4 := hide hG4
  have HO4 := hide hO4
  have HP4 := hide hop4
  clear s1 s3 hA4 hG4 hO4 hop4 f0 hsh hb3 how
  go_cut [] from 109 to 124 (fun wx => wx.heap[A]? = some (.cells (ansC R.1.e R.1.n R.1.s) 27) ∧ GhostAt wx G R.2 ∧ Only (fun b => b = G) w wx ∧ wx.heap[w.heap.size]? = some (.cells (opC k a b c S T) 30))
  case first =>
    by_cases k13 : k = 13
    · have hr := HR.out
      subst k13
      have e1 : R = (⟨0, vs.length, []⟩, vs) := by rw [← hr]; rfl
      have HX : Hid (R.1.n = R.2.length ∧ R.1.s = []) := by rw [e1]; exact ⟨rfl, rfl⟩
      clear hr e1
      generalize hnl : R.2.length = nl at *
      clear hnl
      go_wp2_with fail
      go_meet
      have hk := HKG.out 1 (.int .i64 nl)
      exact ⟨by rw [HX.out.1, HX.out.2]; exact HS1.out nl, hk.1, hk.2.1, hk.2.2⟩
    · have q13 : (k == 13) = false := beq_false_of_ne k13
      by_cases k14 : k = 14
      · have hr := HR.out
        subst k14
        have e1 : R = (⟨0, 0, showF vs⟩, vs) := by rw [← hr]; rfl
        have HX : Hid (R.1.n = 0 ∧ R.1.s = sf) := by rw [← HSF.out, e1]; exact ⟨rfl, rfl⟩
        clear hr e1
        go_wp2_with fail
        go_meet
        have hk := HKG.out 3 (.string (str sf))
        exact ⟨by rw [HX.out.1, HX.out.2]; exact HS3.out sf, hk.1, hk.2.1, hk.2.2⟩
      · have q14 : (k == 14) = false := beq_false_of_ne k14
        by_cases k15 : k = 15
        · have hr := HR.out
          subst k15
          have e1 : R = (⟨0, 1, []⟩, vs) := by rw [← hr]; rfl
          have HX : Hid (R.1.n = 1 ∧ R.1.s = []) := by rw [e1]; exact ⟨rfl, rfl⟩
          clear hr e1
          go_wp2_with fail
          go_meet
          have hk := HKG.out 1 (.int .i64 1)
          exact ⟨by rw [HX.out.1, HX.out.2]; exact HS1.out 1, hk.1, hk.2.1, hk.2.2⟩
        · have q15 : (k == 15) = false := beq_false_of_ne k15
          have HX : Hid (R.1.s = [] ∧ R.1.n = if k = 11 then R.1.n else 0) := by
            show R.1.s = [] ∧ _
            have := doF_ans (a := a) (b := b) (S := S) (vs := vs) k13 k14 k15
            rw [HR.out] at this
            exact this
          go_wp2_with fail
          go_meet
          exact ⟨by rw [HX.out.1, HX.out.2]; exact HA4.out, HG4.out, HO4.out, HP4.out⟩
  case rest =>
  obtain ⟨hA5, hG5, hO5, hop5⟩ := hcut
  have hst5 : Stk wc s g false vs := stk_ghost HS.out HG.out hO5
  have hdo := do_calls hst5 HOK.out k a b c S T hb (fun _ => extra_all a)
  rw [HR.out] at hdo
  unfold opV Ans.v ansV ansC at hdo
  replace hdo := hide hdo
  have HA5 := hide hA5
  have HG5 := hide hG5
  have HO5 := hide hO5
  have HP5 := hide hop5
  have HST5 := hide hst5
  unfold opC at hop5
  have HPP := hide hop5
  clear hA5 hG5 hO5 hop5 hst5 HKG HS1 HS3 HA4 HG4 HO4 HP4 a1 a3 z1 z3 g0 f3
  have HEND : Hid (∀ w5 w6, Moved wc s g false R.2 w5 → Below w5.heap.size w5 w6 → KeptOut w s G g R.2 w6) := fun w5 w6 hm hb6 => by
    have hg5 := ghost_moved HST5.out hm HG5.out
    obtain ⟨g', m1, m2, m3⟩ := hm
    refine ⟨g', m1.below hb6, fun b hb => orMap (m2 b hb) id (fun h => Nat.le_trans HO5.out.size h), hg5.below hb6, ?_⟩
    have ho : Only (fun b => own s g b ∨ b = G) w wc := HO5.out.mono (fun b _ h => .inr h)
    have ho2 : Only (fun b => own s g b ∨ b = G) w w5 := ho.trans m3 (fun i hi => .inl (.inl hi))
    exact ho2.trans (Only.of_below (S := fun b => own s g b ∨ b = G) hb6) (fun i hi => .inl hi)
  cases q with
  | true =>
    go_wp2_with (first | (refine wpList_load_row rfl 30 _ rfl w.heap.size rfl 30 _ (0, 0) _ HPP.out Try.underlying30 rfl (info27 0) ?_) | (go_at_call 29; refine hdo.out.mono ?_; rintro e w5 ⟨rfl, hm5⟩; have FA := hide (hm5.keepsBlock HST5.out HA5.out (by decide) (by decide)); unfold ansC at FA) | (refine wpList_load_row rfl 27 _ rfl w5.heap.size rfl _ _ _ _ (heap_alloc_new _ _) Try.underlying27 rfl info24 ?_) | (refine wpList_load_row rfl 27 _ rfl A rfl _ _ _ _ (heap_before FA.out) Try.underlying27 rfl info24 ?_))
    go_ret
    exact ⟨rfl, HEND.out _ _ hm5 (below_alloc (Below.refl _ _))⟩
  | false =>
    go_wp2_with (first | (refine wpList_load_row rfl 30 _ rfl w.heap.size rfl 30 _ (0, 0) _ HPP.out Try.underlying30 rfl (info27 0) ?_) | (go_at_call 29; refine hdo.out.mono ?_; rintro e w5 ⟨rfl, hm5⟩; have FA := hide (hm5.keepsBlock HST5.out HA5.out (by decide) (by decide)); unfold ansC at FA; obtain ⟨g6, st6, gr6, on6⟩ := id hm5; have hsw := stackShow_calls (st6.below (below_alloc (o := .cells #[.int .i64 R.1.e, .int .i64 R.1.n, .int .i64 0, .string (str R.1.s)] 27) (Below.refl _ w5))) HOKR.out; rw [HSF.out] at hsw; replace hsw := hide hsw; replace st6 := hide st6; replace gr6 := hide gr6; replace on6 := hide on6) | (go_at_call 25; refine hsw.out.mono ?_; rintro e w7 ⟨rfl, hb7⟩; have FB := hide (carry1 FA.out hb7); have FC := hide ((hb7.block _ (lt_of_heap (heap_alloc_new w5 _))).trans (heap_alloc_new w5 _))) | (refine wpList_load_row rfl 27 _ rfl w5.heap.size rfl _ _ _ _ FC.out Try.underlying27 rfl info24 ?_) | (refine wpList_load_row rfl 27 _ rfl A rfl _ _ _ _ FB.out Try.underlying27 rfl info24 ?_))
    go_ret
    exact ⟨rfl, HEND.out _ _ hm5 (below_carry1 (Below.refl _ _) hb7)⟩
end
end Go.Proofs.Qxb6500606a
