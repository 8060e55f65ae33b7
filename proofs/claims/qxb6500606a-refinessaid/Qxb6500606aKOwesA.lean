/-
  Keeps: Owes, kind by kind. (Seat 606 alone.)
-/
import Derived.Test.Qxb6500606aKOwes
namespace Go.Proofs.Qxb6500606a
open Go.ChangeShapes Go.WideShapes Go.ChangeAt Go.RowKit
attribute [local go_sem] str_size str_app str_app1 str_1app str_toList str_get
set_option linter.unusedVariables false

section
variable {w : World} {G : Nat} {vs : St}
set_option maxRecDepth 100000 in
set_option maxHeartbeats 2000000 in
theorem owes_pair (h : GhostAt w G vs) (hok : Okay vs) (hwf : ∀ v ∈ vs, Wf v) (a b c : Int) (S T : List UInt8) :
    Calls Try.prog 31 #[.pointer (some ⟨G, 0, none⟩), opV 3 a b c S T] w (OwesOut w vs (pairF vs)) := by
  have hA : Below w.heap.size w (w.alloc (.cells (opC 3 a b c S T) 30)) := below_alloc (Below.refl _ _)
  have HG : Hid (∀ w1, Below w.heap.size w w1 → GhostAt w1 G vs) := fun w1 hb => h.below hb
  have d0 := (h.below hA).cell.1
  have dt := (h.below hA).top
  have hn5 := hok.1
  have hal := aT_len hok
  have hbl := bT_len hok
  have HN : Hid (vs.length = vs.length) := rfl
  clear h
  generalize hTA : aT vs = ta at *
  generalize hTB : bT vs = tb at *
  have HTA := hide hTA
  have HTB := hide hTB
  clear hTA hTB
  generalize hn : vs.length = n at *
  replace HN := hide hn
  replace HN : Hid (vs.length = n) := hn
  clear hn
  unfold opV
  unfold opC at hA d0 dt
  go_enter Try.func31, Try.ntmps31
  go_upto_if 42 with fail
  go_cut [8] from 38 to 57 (fun s8 wx => s8 = .string (str tb) ∧ Below w.heap.size w wx ∧ wx.heap[w.heap.size]? = some (.cells (opC 3 a b c S T) 30))
  case first =>
    by_cases h1 : n < 1
    · have hd : decide ((1 : Int) ≤ n) = false := decide_eq_false (by omega)
      have hbe : tb = [] := by rw [← HTB.out]; unfold bT; rw [HN.out, if_pos h1]
      go_wp2_with fail
      go_meet
      exact ⟨by rw [hbe]; rfl, hA, heap_alloc_new _ _⟩
    · have hd : decide ((1 : Int) ≤ n) = true := decide_eq_true (by omega)
      have d1 := dt h1
      clear dt
      go_wp2_with fail
      go_region
      go_wp2_with fail
      go_meet
      exact ⟨rfl, below_drew hA, heap_alloc_new _ _⟩
  case rest =>
  obtain ⟨rfl, hB1, hop1⟩ := hcut
  have d0 := (HG.out wc hB1).cell.1
  have ds := (HG.out wc hB1).sub
  rw [HN.out] at d0 ds
  rw [HTA.out] at ds
  clear dt hA
  go_upto_if 57 with fail
  go_cut [7] from 43 to 69 (fun s7 wx => s7 = .string (str ta) ∧ Below w.heap.size w wx ∧ wx.heap[w.heap.size]? = some (.cells (opC 3 a b c S T) 30))
  case first =>
    by_cases h1 : n < 2
    · have hd : decide ((2 : Int) ≤ n) = false := decide_eq_false (by omega)
      have hbe : ta = [] := by rw [← HTA.out]; unfold aT; rw [HN.out, if_pos h1]
      go_wp2_with fail
      go_meet
      exact ⟨by rw [hbe]; rfl, hB1, hop1⟩
    · have hd : decide ((2 : Int) ≤ n) = true := decide_eq_true (by omega)
      have d1 := ds h1
      clear ds
      go_wp2_with fail
      go_region
      go_wp2_with fail
      go_meet
      exact ⟨rfl, below_drew hB1, hop1⟩
  case rest =>
  obtain ⟨rfl, hB2, hop2⟩ := hcut
  obtain ⟨e0, e1, e2, e4⟩ := opC_cell hop2
  clear ds d0 hop1 hB1
  have d0 := (HG.out wc hB2).cell.1
  rw [HN.out] at d0
  have hvn := HN.out
  by_cases h2 : n < 2
  · have hd : decide ((n : Int) < 2) = true := decide_eq_true (by omega)
    have HR : Hid (pairF vs = (4, vs)) := by unfold pairF; rw [if_pos (by omega)]; exact rfl
    clear hvn
    go_wp2_with fail
    go_ret3
    exact ⟨0, [], 4, none, 0, 0, rfl, hB2, (fun e => by cases e), (fun _ => ⟨Nat.zero_le _, by simp⟩), by rw [HR.out]; exact fin_err _ _ _ (by decide)⟩
  have hd : decide ((n : Int) < 2) = false := decide_eq_false (by omega)
  have ET : text (top vs) = tb := by rw [← HTB.out]; unfold bT; rw [if_neg (by omega)]
  have ES : text (subtop vs) = ta := by rw [← HTA.out]; unfold aT; rw [if_neg (by omega)]
  have H5 : Hid (¬ 5 < vs.length - 2 + 1) := by show ¬ 5 < vs.length - 2 + 1; omega
  have HR : Hid (pairF vs = if 30 < (text (vpair (subtop vs) (top vs))).length then (7, vs) else lay 2 (vpair (subtop vs) (top vs)) vs) := by unfold pairF; rw [if_neg (by omega)]; exact rfl
  replace ES := hide ES
  replace ET := hide ET
  clear hvn
  go_wp2_with fail
  go_ret3
  refine ⟨2, [vpair (subtop vs) (top vs)], 0, _, 1, 1, rfl, below_alloc hB2, fun _ => strs_one ?_ hB2.size, (fun _ => ⟨by rw [HN.out]; omega, by simp⟩), ?_⟩
  · show _ = some (Obj.cells #[.string (str (text (vpair (subtop vs) (top vs))))] 9)
    rw [text_pair, ES.out, ET.out]
    exact heap_alloc_new _ _
  · rw [fin_one, if_neg H5.out]
    exact HR.out.symm
set_option maxRecDepth 100000 in
set_option maxHeartbeats 2000000 in
theorem owes_cons (h : GhostAt w G vs) (hok : Okay vs) (hwf : ∀ v ∈ vs, Wf v) (a b c : Int) (S T : List UInt8) :
    Calls Try.prog 31 #[.pointer (some ⟨G, 0, none⟩), opV 2 a b c S T] w (OwesOut w vs (consF vs)) := by
  have hA : Below w.heap.size w (w.alloc (.cells (opC 2 a b c S T) 30)) := below_alloc (Below.refl _ _)
  have HG : Hid (∀ w1, Below w.heap.size w w1 → GhostAt w1 G vs) := fun w1 hb => h.below hb
  have d0 := (h.below hA).cell.1
  have dt := (h.below hA).top
  have hn5 := hok.1
  have hal := aT_len hok
  have hbl := bT_len hok
  have HN : Hid (vs.length = vs.length) := rfl
  clear h
  generalize hTA : aT vs = ta at *
  generalize hTB : bT vs = tb at *
  have HTA := hide hTA
  have HTB := hide hTB
  clear hTA hTB
  generalize hn : vs.length = n at *
  replace HN := hide hn
  replace HN : Hid (vs.length = n) := hn
  clear hn
  unfold opV
  unfold opC at hA d0 dt
  go_enter Try.func31, Try.ntmps31
  go_upto_if 42 with fail
  go_cut [8] from 38 to 57 (fun s8 wx => s8 = .string (str tb) ∧ Below w.heap.size w wx ∧ wx.heap[w.heap.size]? = some (.cells (opC 2 a b c S T) 30))
  case first =>
    by_cases h1 : n < 1
    · have hd : decide ((1 : Int) ≤ n) = false := decide_eq_false (by omega)
      have hbe : tb = [] := by rw [← HTB.out]; unfold bT; rw [HN.out, if_pos h1]
      go_wp2_with fail
      go_meet
      exact ⟨by rw [hbe]; rfl, hA, heap_alloc_new _ _⟩
    · have hd : decide ((1 : Int) ≤ n) = true := decide_eq_true (by omega)
      have d1 := dt h1
      clear dt
      go_wp2_with fail
      go_region
      go_wp2_with fail
      go_meet
      exact ⟨rfl, below_drew hA, heap_alloc_new _ _⟩
  case rest =>
  obtain ⟨rfl, hB1, hop1⟩ := hcut
  have d0 := (HG.out wc hB1).cell.1
  have ds := (HG.out wc hB1).sub
  rw [HN.out] at d0 ds
  rw [HTA.out] at ds
  clear dt hA
  go_upto_if 57 with fail
  go_cut [7] from 43 to 69 (fun s7 wx => s7 = .string (str ta) ∧ Below w.heap.size w wx ∧ wx.heap[w.heap.size]? = some (.cells (opC 2 a b c S T) 30))
  case first =>
    by_cases h1 : n < 2
    · have hd : decide ((2 : Int) ≤ n) = false := decide_eq_false (by omega)
      have hbe : ta = [] := by rw [← HTA.out]; unfold aT; rw [HN.out, if_pos h1]
      go_wp2_with fail
      go_meet
      exact ⟨by rw [hbe]; rfl, hB1, hop1⟩
    · have hd : decide ((2 : Int) ≤ n) = true := decide_eq_true (by omega)
      have d1 := ds h1
      clear ds
      go_wp2_with fail
      go_region
      go_wp2_with fail
      go_meet
      exact ⟨rfl, below_drew hB1, hop1⟩
  case rest =>
  obtain ⟨rfl, hB2, hop2⟩ := hcut
  obtain ⟨e0, e1, e2, e4⟩ := opC_cell hop2
  clear ds d0 hop1 hB1
  have d0 := (HG.out wc hB2).cell.1
  rw [HN.out] at d0
  have hvn := HN.out
  by_cases h2 : n < 2
  · have hd : decide ((n : Int) < 2) = true := decide_eq_true (by omega)
    have HR : Hid (consF vs = (4, vs)) := by unfold consF; rw [if_pos (by omega)]; exact rfl
    clear hvn
    go_wp2_with fail
    go_ret3
    exact ⟨0, [], 4, none, 0, 0, rfl, hB2, (fun e => by cases e), (fun _ => ⟨Nat.zero_le _, by simp⟩), by rw [HR.out]; exact fin_err _ _ _ (by decide)⟩
  have hd : decide ((n : Int) < 2) = false := decide_eq_false (by omega)
  have ET : text (top vs) = tb := by rw [← HTB.out]; unfold bT; rw [if_neg (by omega)]
  have ES : text (subtop vs) = ta := by rw [← HTA.out]; unfold aT; rw [if_neg (by omega)]
  have H5 : Hid (¬ 5 < vs.length - 2 + 1) := by show ¬ 5 < vs.length - 2 + 1; omega
  have hws : Wf (subtop vs) := hwf _ (List.mem_of_getElem? (sub_at (by omega)))
  have HR : Hid (consF vs = if kind (subtop vs) = 3 then (if 30 < (text (vcons (top vs) (subtop vs))).length then (7, vs) else lay 2 (vcons (top vs) (subtop vs)) vs) else (2, vs)) := by unfold consF; rw [if_neg (by omega)]; exact rfl
  have hkk := kindOf_at hws (by rw [ES]; omega)
  rw [ES] at hkk
  have hk := hide hkk
  clear hkk
  have HTL : Hid (isL (subtop vs) = true → text (subtop vs) = 91 :: (inner (subtop vs) ++ [93])) := fun hL => text_list _ hL
  have HX : Hid (text (vcons (top vs) (subtop vs)) = 91 :: ((text (top vs) ++ sepInner (subtop vs)) ++ [93])) := by
    rw [text_list _ rfl, inner_cons]; exact rfl
  have HWS := hide hws
  replace ES := hide ES
  replace ET := hide ET
  clear hvn hws hwf
  by_cases h3 : kind (subtop vs) = 3
  · have hne : ((kind (subtop vs) : Int) != 3) = false := by simp [h3]
    have hL : isL (subtop vs) = true := by
      rcases wf_cases HWS.out with e | ⟨x, e, hn⟩ | ⟨s, e⟩ | ⟨l, r, e, _⟩ | ⟨l, r, e, _⟩ <;> rw [e] at h3 ⊢ <;> first | rfl | cases h3
    have hnil := text_nil_iff HWS.out hL
    rw [ES.out] at hnil
    have HNIL := hide hnil
    have HL := hide hL
    clear hnil hL
    by_cases hz : subtop vs = .nil
    · have hq : (ta == [91, 93]) = true := by simp [HNIL.out.2 hz]
      have HZ := hide hz
      clear hz
      generalize kind (subtop vs) = kk at *
      go_wp2_with (go_at_call 63; refine (hk.out _).mono ?_; rintro e w' ⟨rfl, hw⟩; subst w')
      go_ret3
      refine ⟨2, [vcons (top vs) (subtop vs)], 0, _, 1, 1, rfl, below_alloc hB2, fun _ => strs_one ?_ hB2.size, (fun _ => ⟨by rw [HN.out]; omega, by simp⟩), ?_⟩
      · show _ = some (Obj.cells #[.string (str (text (vcons (top vs) (subtop vs))))] 9)
        rw [HX.out, ET.out, HZ.out]
        show _ = some (Obj.cells #[.string (str (91 :: ((tb ++ []) ++ [93])))] 9)
        rw [List.append_nil]
        exact heap_alloc_new _ _
      · rw [fin_one, if_neg H5.out, HR.out, if_pos h3]
    · have hta : ta ≠ [91, 93] := fun e => hz (HNIL.out.1 e)
      have hq : (ta == [91, 93]) = false := by simpa using hta
      have htl : 1 ≤ ta.length := by rw [← ES.out, HTL.out HL.out]; simp
      have hxa : (str ta).extract 1 ta.length = str (ta.drop 1) := by
        rw [str_extract]
        congr 1
        exact List.take_of_length_le (by simp)
      have HZ : Hid (sepInner (subtop vs) ++ [93] = 32 :: ta.drop 1) := by
        rw [← ES.out, HTL.out HL.out]
        cases hs : subtop vs with
        | nil => exact absurd hs hz
        | node t o x l r => rfl
      have hdl : (ta.drop 1).length ≤ 30 := by simp; omega
      generalize hda : ta.drop 1 = da at *
      clear hta hda
      generalize kind (subtop vs) = kk at *
      go_wp2_with (go_at_call 63; refine (hk.out _).mono ?_; rintro e w' ⟨rfl, hw⟩; subst w')
      go_region
      go_wp2_with fail
      go_ret3
      refine ⟨2, [vcons (top vs) (subtop vs)], 0, _, 1, 1, rfl, below_drew (below_alloc hB2), fun _ => strs_one ?_ hB2.size, (fun _ => ⟨by rw [HN.out]; omega, by simp⟩), ?_⟩
      · show _ = some (Obj.cells #[.string (str (text (vcons (top vs) (subtop vs))))] 9)
        rw [HX.out, ET.out, List.append_assoc, HZ.out]
        exact heap_alloc_new _ _
      · rw [fin_one, if_neg H5.out, HR.out, if_pos h3]
  · have hne : ((kind (subtop vs) : Int) != 3) = true := by simp; omega
    generalize kind (subtop vs) = kk at *
    go_wp2_with (go_at_call 63; refine (hk.out _).mono ?_; rintro e w' ⟨rfl, hw⟩; subst w')
    go_ret3
    exact ⟨0, [], 2, none, 0, 0, rfl, hB2, (fun e => by cases e), (fun _ => ⟨Nat.zero_le _, by simp⟩), by rw [HR.out, if_neg h3]; exact fin_err _ _ _ (by decide)⟩
set_option maxRecDepth 100000 in
set_option maxHeartbeats 2000000 in
theorem owes_add (h : GhostAt w G vs) (hok : Okay vs) (hwf : ∀ v ∈ vs, Wf v) (a b c : Int) (S T : List UInt8) :
    Calls Try.prog 31 #[.pointer (some ⟨G, 0, none⟩), opV 4 a b c S T] w (OwesOut w vs (addF vs)) := by
  have hA : Below w.heap.size w (w.alloc (.cells (opC 4 a b c S T) 30)) := below_alloc (Below.refl _ _)
  have HG : Hid (∀ w1, Below w.heap.size w w1 → GhostAt w1 G vs) := fun w1 hb => h.below hb
  have d0 := (h.below hA).cell.1
  have dt := (h.below hA).top
  have hn5 := hok.1
  have hal := aT_len hok
  have hbl := bT_len hok
  have HN : Hid (vs.length = vs.length) := rfl
  clear h
  generalize hTA : aT vs = ta at *
  generalize hTB : bT vs = tb at *
  have HTA := hide hTA
  have HTB := hide hTB
  clear hTA hTB
  generalize hn : vs.length = n at *
  replace HN := hide hn
  replace HN : Hid (vs.length = n) := hn
  clear hn
  unfold opV
  unfold opC at hA d0 dt
  go_enter Try.func31, Try.ntmps31
  go_upto_if 42 with fail
  go_cut [8] from 38 to 57 (fun s8 wx => s8 = .string (str tb) ∧ Below w.heap.size w wx ∧ wx.heap[w.heap.size]? = some (.cells (opC 4 a b c S T) 30))
  case first =>
    by_cases h1 : n < 1
    · have hd : decide ((1 : Int) ≤ n) = false := decide_eq_false (by omega)
      have hbe : tb = [] := by rw [← HTB.out]; unfold bT; rw [HN.out, if_pos h1]
      go_wp2_with fail
      go_meet
      exact ⟨by rw [hbe]; rfl, hA, heap_alloc_new _ _⟩
    · have hd : decide ((1 : Int) ≤ n) = true := decide_eq_true (by omega)
      have d1 := dt h1
      clear dt
      go_wp2_with fail
      go_region
      go_wp2_with fail
      go_meet
      exact ⟨rfl, below_drew hA, heap_alloc_new _ _⟩
  case rest =>
  obtain ⟨rfl, hB1, hop1⟩ := hcut
  have d0 := (HG.out wc hB1).cell.1
  have ds := (HG.out wc hB1).sub
  rw [HN.out] at d0 ds
  rw [HTA.out] at ds
  clear dt hA
  go_upto_if 57 with fail
  go_cut [7] from 43 to 69 (fun s7 wx => s7 = .string (str ta) ∧ Below w.heap.size w wx ∧ wx.heap[w.heap.size]? = some (.cells (opC 4 a b c S T) 30))
  case first =>
    by_cases h1 : n < 2
    · have hd : decide ((2 : Int) ≤ n) = false := decide_eq_false (by omega)
      have hbe : ta = [] := by rw [← HTA.out]; unfold aT; rw [HN.out, if_pos h1]
      go_wp2_with fail
      go_meet
      exact ⟨by rw [hbe]; rfl, hB1, hop1⟩
    · have hd : decide ((2 : Int) ≤ n) = true := decide_eq_true (by omega)
      have d1 := ds h1
      clear ds
      go_wp2_with fail
      go_region
      go_wp2_with fail
      go_meet
      exact ⟨rfl, below_drew hB1, hop1⟩
  case rest =>
  obtain ⟨rfl, hB2, hop2⟩ := hcut
  obtain ⟨e0, e1, e2, e4⟩ := opC_cell hop2
  clear ds d0 hop1 hB1
  have d0 := (HG.out wc hB2).cell.1
  rw [HN.out] at d0
  have hvn := HN.out
  by_cases h2 : n < 2
  · have hd : decide ((n : Int) < 2) = true := decide_eq_true (by omega)
    have HR : Hid (addF vs = (4, vs)) := by unfold addF; rw [if_pos (by omega)]; exact rfl
    clear hvn
    go_wp2_with fail
    go_ret3
    exact ⟨0, [], 4, none, 0, 0, rfl, hB2, (fun e => by cases e), (fun _ => ⟨Nat.zero_le _, by simp⟩), by rw [HR.out]; exact fin_err _ _ _ (by decide)⟩
  have hd : decide ((n : Int) < 2) = false := decide_eq_false (by omega)
  have ET : text (top vs) = tb := by rw [← HTB.out]; unfold bT; rw [if_neg (by omega)]
  have ES : text (subtop vs) = ta := by rw [← HTA.out]; unfold aT; rw [if_neg (by omega)]
  have H5 : Hid (¬ 5 < vs.length - 2 + 1) := by show ¬ 5 < vs.length - 2 + 1; omega
  have hws : Wf (subtop vs) := hwf _ (List.mem_of_getElem? (sub_at (by omega)))
  have hwt : Wf (top vs) := hwf _ (List.mem_of_getElem? (top_at (by omega)))
  have HR : Hid (addF vs = if (plusF (subtop vs) (top vs)).1 ≠ 0 then ((plusF (subtop vs) (top vs)).1, vs) else lay 2 (plusF (subtop vs) (top vs)).2 vs) := by unfold addF; rw [if_neg (by omega)]; exact rfl
  have hss := sum_calls (b := top vs) wc hws hwt (by rw [ES]; omega) (by rw [ET]; omega)
  rw [ES, ET] at hss
  have hs := hide hss
  have HPT : Hid ((plusF (subtop vs) (top vs)).1 = 0 → (text (plusF (subtop vs) (top vs)).2).length ≤ 30) := fun e => plusF_text e
  clear hvn hws hwf hss ES ET hwt
  generalize plusF (subtop vs) (top vs) = q at *
  have HTX : Hid (q.1 = 0 → text q.2 = if q.1 = 0 then text q.2 else []) := fun e => by rw [if_pos e]
  unfold SumOut at hs
  generalize (if q.1 = 0 then text q.2 else []) = tt at *
  go_wp2_with (go_at_call 64; refine hs.out.mono ?_; rintro e w1 ⟨rfl, hb1⟩)
  go_ret3
  have hB3 : Below w.heap.size w w1 := below_next hB2 hb1
  refine ⟨2, [q.2], q.1, _, 1, 1, rfl, below_alloc hB3, fun e => strs_one ?_ hB3.size, (fun _ => ⟨by rw [HN.out]; omega, by simp⟩), ?_⟩
  · rw [HTX.out e]
    exact heap_alloc_new _ _
  · rw [HR.out]
    by_cases hq : q.1 = 0
    · rw [if_neg (by simp [hq]), hq, fin_one, if_neg H5.out, if_neg (by have := HPT.out hq; omega)]
    · rw [if_pos hq]; exact fin_err _ _ _ hq
end
end Go.Proofs.Qxb6500606a
