/-
  Keeps: Owes, kind by kind: Extra. (Seat 606 alone.)
-/
import Derived.Test.Qxb6500606aKPlain
import Derived.OwnWalk
namespace Go.Proofs.Qxb6500606a
open Go.ChangeShapes Go.WideShapes Go.ChangeAt Go.RowKit
attribute [local go_sem] str_size str_app str_app1 str_1app str_toList str_get
set_option linter.unusedVariables false

section
variable {w : World} {G : Nat} {vs : St}
set_option maxRecDepth 100000 in
set_option maxHeartbeats 2000000 in
theorem owes_quot (h : GhostAt w G vs) (hok : Okay vs) (hwf : ∀ v ∈ vs, Wf v) (b c : Int) (S T : List UInt8) :
    Calls Try.prog 31 #[.pointer (some ⟨G, 0, none⟩), opV 12 4 b c S T] w (OwesOut w vs (extraF 4 vs)) := by
  have hA : Below w.heap.size w (w.alloc (.cells (opC 12 4 b c S T) 30)) := below_alloc (Below.refl _ _)
  have HG : Hid (∀ w1, Below w.heap.size w w1 → GhostAt w1 G vs) := fun w1 hb => h.below hb
  have d0 := (h.below hA).cell.1
  have dt := (h.below hA).top
  have hn5 := hok.1
  have hal := aT_len hok
  have hbl := bT_len hok
  have HN : Hid (vs.length = vs.length) := rfl
  clear h
  generalize hTA : aT vs = ta at *
  generalize hTB : bT vs = tb at *
  have HTA := hide hTA
  have HTB := hide hTB
  clear hTA hTB
  generalize hn : vs.length = n at *
  replace HN := hide hn
  replace HN : Hid (vs.length = n) := hn
  clear hn
  unfold opV
  unfold opC at hA d0 dt
  go_enter Try.func31, Try.ntmps31
  go_upto_if 42 with fail
  go_cut [8] from 38 to 57 (fun s8 wx => s8 = .string (str tb) ∧ Below w.heap.size w wx ∧ wx.heap[w.heap.size]? = some (.cells (opC 12 4 b c S T) 30))
  case first =>
    by_cases h1 : n < 1
    · have hd : decide ((1 : Int) ≤ n) = false := decide_eq_false (by omega)
      have hbe : tb = [] := by rw [← HTB.out]; unfold bT; rw [HN.out, if_pos h1]
      go_wp2_with fail
      go_meet
      exact ⟨by rw [hbe]; rfl, hA, heap_alloc_new _ _⟩
    · have hd : decide ((1 : Int) ≤ n) = true := decide_eq_true (by omega)
      have d1 := dt h1
      clear dt
      go_wp2_with fail
      go_region
      go_wp2_with fail
      go_meet
      exact ⟨rfl, below_drew hA, heap_alloc_new _ _⟩
  case rest =>
  obtain ⟨rfl, hB1, hop1⟩ := hcut
  have d0 := (HG.out wc hB1).cell.1
  have ds := (HG.out wc hB1).sub
  rw [HN.out] at d0 ds
  rw [HTA.out] at ds
  clear dt hA
  go_upto_if 57 with fail
  go_cut [7] from 43 to 69 (fun s7 wx => s7 = .string (str ta) ∧ Below w.heap.size w wx ∧ wx.heap[w.heap.size]? = some (.cells (opC 12 4 b c S T) 30))
  case first =>
    by_cases h1 : n < 2
    · have hd : decide ((2 : Int) ≤ n) = false := decide_eq_false (by omega)
      have hbe : ta = [] := by rw [← HTA.out]; unfold aT; rw [HN.out, if_pos h1]
      go_wp2_with fail
      go_meet
      exact ⟨by rw [hbe]; rfl, hB1, hop1⟩
    · have hd : decide ((2 : Int) ≤ n) = true := decide_eq_true (by omega)
      have d1 := ds h1
      clear ds
      go_wp2_with fail
      go_region
      go_wp2_with fail
      go_meet
      exact ⟨rfl, below_drew hB1, hop1⟩
  case rest =>
  obtain ⟨rfl, hB2, hop2⟩ := hcut
  obtain ⟨e0, e1, e2, e4⟩ := opC_cell hop2
  clear ds d0 hop1 hB1
  have d0 := (HG.out wc hB2).cell.1
  rw [HN.out] at d0
  have hvn := HN.out
  have hd : decide ((n : Int) < 0) = false := decide_eq_false (by omega)
  have HE : Hid (extraF 4 vs = quotF vs) := by exact rfl
  by_cases h2 : n < 2
  · have hd2 : decide ((n : Int) < 2) = true := decide_eq_true (by omega)
    have HR : Hid (extraF 4 vs = (5, vs)) := by
      show extraF 4 vs = _
      rw [HE.out]; unfold quotF; rw [if_pos (by omega)]
    clear hvn hwf HE
    go_wp2_with fail
    go_ret3
    exact ⟨0, [], 5, none, 0, 0, rfl, hB2, (fun e => by cases e), (fun _ => ⟨Nat.zero_le _, by simp⟩), by rw [HR.out]; exact fin_err _ _ _ (by decide)⟩
  have hd2 : decide ((n : Int) < 2) = false := decide_eq_false (by omega)
  have ET : text (top vs) = tb := by rw [← HTB.out]; unfold bT; rw [if_neg (by omega)]
  have ES : text (subtop vs) = ta := by rw [← HTA.out]; unfold aT; rw [if_neg (by omega)]
  have hws : Wf (subtop vs) := hwf _ (List.mem_of_getElem? (sub_at (by omega)))
  have hwt : Wf (top vs) := hwf _ (List.mem_of_getElem? (top_at (by omega)))
  have HF : Hid (∀ x : Int, fin vs 2 [vint x] 0 = lay 2 (vint x) vs) := fun x => by
    rw [fin_one, if_neg (by have := text_vint x; omega), if_neg (by omega)]
  have HQ : Hid (extraF 4 vs = if kind (top vs) = 1 ∧ kind (subtop vs) = 1 ∧ num (top vs) ≠ 0 then lay 2 (vint (wr ((num (subtop vs)).tdiv (num (top vs))))) vs else (5, vs)) := by
    show extraF 4 vs = _
    rw [HE.out]; unfold quotF; rw [if_neg (by omega)]
  have hka := kindOf_at hws (by rw [ES]; omega)
  have hkb := kindOf_at hwt (by rw [ET]; omega)
  rw [ES] at hka
  rw [ET] at hkb
  replace hka := hide hka
  replace hkb := hide hkb
  clear hvn hwf HE
  by_cases hk1 : kind (subtop vs) = 1
  · by_cases hk2 : kind (top vs) = 1
    · rcases wf_cases hws with e | ⟨x, ex, hx⟩ | ⟨s, e⟩ | ⟨l, r, e, _⟩ | ⟨l, r, e, _⟩
      · rw [e] at hk1; cases hk1
      · rcases wf_cases hwt with e | ⟨y, ey, hy⟩ | ⟨s, e⟩ | ⟨l, r, e, _⟩ | ⟨l, r, e, _⟩
        · rw [e] at hk2; cases hk2
        · have hnx := numOf_calls x hx
          have hny := numOf_calls y hy
          rw [ex, text_int] at ES
          rw [ey, text_int] at ET
          rw [ES] at hnx
          rw [ET] at hny
          replace hnx := hide hnx
          replace hny := hide hny
          rw [ex, ey] at HQ
          rw [hk1] at hka
          rw [hk2] at hkb
          clear ES ET ex ey hk1 hk2 hws hwt
          by_cases hy0 : y = 0
          · have hq : (y == 0) = true := by simp [hy0]
            have HR : Hid (extraF 4 vs = (5, vs)) := by
              show extraF 4 vs = _
              rw [HQ.out, if_neg (by rintro ⟨_, _, h⟩; exact h hy0)]
            clear hy0 HQ
            go_wp2_with (first | (go_at_call_of 63 (Value.string (str ta)); refine (hka.out _).mono ?_; rintro e w' ⟨rfl, hw⟩; subst w') | (go_at_call_of 63 (Value.string (str tb)); refine (hkb.out _).mono ?_; rintro e w' ⟨rfl, hw⟩; subst w') | (go_at_call_of 32 (Value.string (str ta)); refine (hnx.out _).mono ?_; rintro e w' ⟨rfl, hw⟩; subst w') | (go_at_call_of 32 (Value.string (str tb)); refine (hny.out _).mono ?_; rintro e w' ⟨rfl, hw⟩; subst w'))
            go_ret3
            exact ⟨0, [], 5, none, 0, 0, rfl, hB2, (fun e => by cases e), (fun _ => ⟨Nat.zero_le _, by simp⟩), by rw [HR.out]; exact fin_err _ _ _ (by decide)⟩
          · have hq : (y == 0) = false := beq_false_of_ne hy0
            have hita := hide (itoa_calls (wr (x.tdiv y)) wc (wr_i64 _))
            have hw : wrap64 (x.tdiv y) = wr (x.tdiv y) := wr_eq _
            have HR : Hid (extraF 4 vs = lay 2 (vint (wr (x.tdiv y))) vs) := by
              show extraF 4 vs = _
              rw [HQ.out, if_pos ⟨rfl, rfl, hy0⟩]; rfl
            clear HQ
            generalize hwz : wr (x.tdiv y) = z at *
            clear hwz
            generalize hib : itoa z = ib at *
            have HIB := hide hib
            clear hib
            go_wp2_with (first | (first | (go_at_call_of 63 (Value.string (str ta)); refine (hka.out _).mono ?_; rintro e w' ⟨rfl, hw⟩; subst w') | (go_at_call_of 63 (Value.string (str tb)); refine (hkb.out _).mono ?_; rintro e w' ⟨rfl, hw⟩; subst w') | (go_at_call_of 32 (Value.string (str ta)); refine (hnx.out _).mono ?_; rintro e w' ⟨rfl, hw⟩; subst w') | (go_at_call_of 32 (Value.string (str tb)); refine (hny.out _).mono ?_; rintro e w' ⟨rfl, hw⟩; subst w')) | (go_at_call 33; refine hita.out.mono ?_; rintro e w1 ⟨rfl, hb1⟩))
            go_ret3
            have hB3 : Below w.heap.size w w1 := below_next hB2 hb1
            refine ⟨2, [vint z], 0, _, 1, 1, rfl, below_alloc hB3, fun _ => strs_one ?_ hB3.size, (fun _ => ⟨by rw [HN.out]; omega, by simp⟩), ?_⟩
            · rw [text_int, HIB.out]; exact heap_alloc_new _ _
            · rw [HR.out]; exact HF.out _
        · rw [e] at hk2; cases hk2
        · rw [e] at hk2; cases hk2
        · rw [e] at hk2; cases hk2
      · rw [e] at hk1; cases hk1
      · rw [e] at hk1; cases hk1
      · rw [e] at hk1; cases hk1
    · have HR : Hid (extraF 4 vs = (5, vs)) := by
        show extraF 4 vs = _
        rw [HQ.out, if_neg (by rintro ⟨h, _⟩; exact hk2 h)]
      have hne : ((kind (top vs) : Int) != 1) = true := by simp; omega
      rw [hk1] at hka
      clear HQ hws hwt ES ET hk1 hk2
      generalize kind (top vs) = kk at *
      go_wp2_with (first | (go_at_call_of 63 (Value.string (str ta)); refine (hka.out _).mono ?_; rintro e w' ⟨rfl, hw⟩; subst w') | (go_at_call_of 63 (Value.string (str tb)); refine (hkb.out _).mono ?_; rintro e w' ⟨rfl, hw⟩; subst w'))
      go_ret3
      exact ⟨0, [], 5, none, 0, 0, rfl, hB2, (fun e => by cases e), (fun _ => ⟨Nat.zero_le _, by simp⟩), by rw [HR.out]; exact fin_err _ _ _ (by decide)⟩
  · have HR : Hid (extraF 4 vs = (5, vs)) := by
      show extraF 4 vs = _
      rw [HQ.out, if_neg (by rintro ⟨_, h, _⟩; exact hk1 h)]
    have hne : ((kind (subtop vs) : Int) != 1) = true := by simp; omega
    clear HQ hws hwt ES ET hk1
    generalize kind (top vs) = kk at *
    generalize kind (subtop vs) = kj at *
    go_wp2_with (first | (go_at_call_of 63 (Value.string (str ta)); refine (hka.out _).mono ?_; rintro e w' ⟨rfl, hw⟩; subst w') | (go_at_call_of 63 (Value.string (str tb)); refine (hkb.out _).mono ?_; rintro e w' ⟨rfl, hw⟩; subst w'))
    go_ret3
    exact ⟨0, [], 5, none, 0, 0, rfl, hB2, (fun e => by cases e), (fun _ => ⟨Nat.zero_le _, by simp⟩), by rw [HR.out]; exact fin_err _ _ _ (by decide)⟩
end
end Go.Proofs.Qxb6500606a
