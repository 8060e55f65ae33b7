/-
  Keeps: Owes, kind by kind. (Seat 606 alone.)
-/
import Derived.Test.Qxb6500606aKOwes
namespace Go.Proofs.Qxb6500606a
open Go.ChangeShapes Go.WideShapes Go.ChangeAt Go.RowKit
attribute [local go_sem] str_size str_app str_app1 str_1app str_toList str_get
set_option linter.unusedVariables false

section
variable {w : World} {G : Nat} {vs : St}
set_option maxRecDepth 100000 in
set_option maxHeartbeats 2000000 in
theorem owes_dup (h : GhostAt w G vs) (hok : Okay vs) (hwf : ∀ v ∈ vs, Wf v) (a b c : Int) (S T : List UInt8) :
    Calls Try.prog 31 #[.pointer (some ⟨G, 0, none⟩), opV 9 a b c S T] w (OwesOut w vs (dupF vs)) := by
  have hA : Below w.heap.size w (w.alloc (.cells (opC 9 a b c S T) 30)) := below_alloc (Below.refl _ _)
  have HG : Hid (∀ w1, Below w.heap.size w w1 → GhostAt w1 G vs) := fun w1 hb => h.below hb
  have d0 := (h.below hA).cell.1
  have dt := (h.below hA).top
  have hn5 := hok.1
  have hal := aT_len hok
  have hbl := bT_len hok
  have HN : Hid (vs.length = vs.length) := rfl
  clear h
  generalize hTA : aT vs = ta at *
  generalize hTB : bT vs = tb at *
  have HTA := hide hTA
  have HTB := hide hTB
  clear hTA hTB
  generalize hn : vs.length = n at *
  replace HN := hide hn
  replace HN : Hid (vs.length = n) := hn
  clear hn
  unfold opV
  unfold opC at hA d0 dt
  go_enter Try.func31, Try.ntmps31
  go_upto_if 42 with fail
  go_cut [8] from 38 to 57 (fun s8 wx => s8 = .string (str tb) ∧ Below w.heap.size w wx ∧ wx.heap[w.heap.size]? = some (.cells (opC 9 a b c S T) 30))
  case first =>
    by_cases h1 : n < 1
    · have hd : decide ((1 : Int) ≤ n) = false := decide_eq_false (by omega)
      have hbe : tb = [] := by rw [← HTB.out]; unfold bT; rw [HN.out, if_pos h1]
      go_wp2_with fail
      go_meet
      exact ⟨by rw [hbe]; rfl, hA, heap_alloc_new _ _⟩
    · have hd : decide ((1 : Int) ≤ n) = true := decide_eq_true (by omega)
      have d1 := dt h1
      clear dt
      go_wp2_with fail
      go_region
      go_wp2_with fail
      go_meet
      exact ⟨rfl, below_drew hA, heap_alloc_new _ _⟩
  case rest =>
  obtain ⟨rfl, hB1, hop1⟩ := hcut
  have d0 := (HG.out wc hB1).cell.1
  have ds := (HG.out wc hB1).sub
  rw [HN.out] at d0 ds
  rw [HTA.out] at ds
  clear dt hA
  go_upto_if 57 with fail
  go_cut [7] from 43 to 69 (fun s7 wx => s7 = .string (str ta) ∧ Below w.heap.size w wx ∧ wx.heap[w.heap.size]? = some (.cells (opC 9 a b c S T) 30))
  case first =>
    by_cases h1 : n < 2
    · have hd : decide ((2 : Int) ≤ n) = false := decide_eq_false (by omega)
      have hbe : ta = [] := by rw [← HTA.out]; unfold aT; rw [HN.out, if_pos h1]
      go_wp2_with fail
      go_meet
      exact ⟨by rw [hbe]; rfl, hB1, hop1⟩
    · have hd : decide ((2 : Int) ≤ n) = true := decide_eq_true (by omega)
      have d1 := ds h1
      clear ds
      go_wp2_with fail
      go_region
      go_wp2_with fail
      go_meet
      exact ⟨rfl, below_drew hB1, hop1⟩
  case rest =>
  obtain ⟨rfl, hB2, hop2⟩ := hcut
  obtain ⟨e0, e1, e2, e4⟩ := opC_cell hop2
  clear ds d0 hop1 hB1
  have d0 := (HG.out wc hB2).cell.1
  rw [HN.out] at d0
  have hvn := HN.out
  by_cases h2 : n < 1
  · have hd : decide ((n : Int) < 1) = true := decide_eq_true (by omega)
    have HR : Hid (dupF vs = (4, vs)) := by unfold dupF; rw [if_pos (by omega)]; exact rfl
    clear hvn
    go_wp2_with fail
    go_ret3
    exact ⟨0, [], 4, none, 0, 0, rfl, hB2, (fun e => by cases e), (fun _ => ⟨Nat.zero_le _, by simp⟩), by rw [HR.out]; exact fin_err _ _ _ (by decide)⟩
  have hd : decide ((n : Int) < 1) = false := decide_eq_false (by omega)
  have ET : text (top vs) = tb := by rw [← HTB.out]; unfold bT; rw [if_neg (by omega)]
  have HT : Hid ((text (top vs)).length ≤ 30) := by show (text (top vs)).length ≤ 30; rw [ET]; exact hbl
  have HR : Hid (dupF vs = if 5 ≤ n then (3, vs) else lay 0 (top vs) vs) := by unfold dupF; rw [if_neg (by omega), hvn]; exact rfl
  replace ET := hide ET
  clear hvn
  go_wp2_with fail
  go_ret3
  refine ⟨0, [top vs], 0, _, 1, 1, rfl, below_alloc hB2, fun _ => strs_one ?_ hB2.size, (fun _ => ⟨Nat.zero_le _, by simp⟩), ?_⟩
  · rw [ET.out]
    exact heap_alloc_new _ _
  · rw [fin_one, if_neg (by have := HT.out; omega), HR.out, HN.out]
    by_cases h5 : 5 ≤ n
    · rw [if_pos h5, if_pos (by omega)]
    · rw [if_neg h5, if_neg (by omega)]
set_option maxRecDepth 100000 in
set_option maxHeartbeats 2000000 in
theorem owes_drop (h : GhostAt w G vs) (hok : Okay vs) (hwf : ∀ v ∈ vs, Wf v) (a b c : Int) (S T : List UInt8) :
    Calls Try.prog 31 #[.pointer (some ⟨G, 0, none⟩), opV 10 a b c S T] w (OwesOut w vs (dropF vs)) := by
  have hA : Below w.heap.size w (w.alloc (.cells (opC 10 a b c S T) 30)) := below_alloc (Below.refl _ _)
  have HG : Hid (∀ w1, Below w.heap.size w w1 → GhostAt w1 G vs) := fun w1 hb => h.below hb
  have d0 := (h.below hA).cell.1
  have dt := (h.below hA).top
  have hn5 := hok.1
  have hal := aT_len hok
  have hbl := bT_len hok
  have HN : Hid (vs.length = vs.length) := rfl
  clear h
  generalize hTA : aT vs = ta at *
  generalize hTB : bT vs = tb at *
  have HTA := hide hTA
  have HTB := hide hTB
  clear hTA hTB
  generalize hn : vs.length = n at *
  replace HN := hide hn
  replace HN : Hid (vs.length = n) := hn
  clear hn
  unfold opV
  unfold opC at hA d0 dt
  go_enter Try.func31, Try.ntmps31
  go_upto_if 42 with fail
  go_cut [8] from 38 to 57 (fun s8 wx => s8 = .string (str tb) ∧ Below w.heap.size w wx ∧ wx.heap[w.heap.size]? = some (.cells (opC 10 a b c S T) 30))
  case first =>
    by_cases h1 : n < 1
    · have hd : decide ((1 : Int) ≤ n) = false := decide_eq_false (by omega)
      have hbe : tb = [] := by rw [← HTB.out]; unfold bT; rw [HN.out, if_pos h1]
      go_wp2_with fail
      go_meet
      exact ⟨by rw [hbe]; rfl, hA, heap_alloc_new _ _⟩
    · have hd : decide ((1 : Int) ≤ n) = true := decide_eq_true (by omega)
      have d1 := dt h1
      clear dt
      go_wp2_with fail
      go_region
      go_wp2_with fail
      go_meet
      exact ⟨rfl, below_drew hA, heap_alloc_new _ _⟩
  case rest =>
  obtain ⟨rfl, hB1, hop1⟩ := hcut
  have d0 := (HG.out wc hB1).cell.1
  have ds := (HG.out wc hB1).sub
  rw [HN.out] at d0 ds
  rw [HTA.out] at ds
  clear dt hA
  go_upto_if 57 with fail
  go_cut [7] from 43 to 69 (fun s7 wx => s7 = .string (str ta) ∧ Below w.heap.size w wx ∧ wx.heap[w.heap.size]? = some (.cells (opC 10 a b c S T) 30))
  case first =>
    by_cases h1 : n < 2
    · have hd : decide ((2 : Int) ≤ n) = false := decide_eq_false (by omega)
      have hbe : ta = [] := by rw [← HTA.out]; unfold aT; rw [HN.out, if_pos h1]
      go_wp2_with fail
      go_meet
      exact ⟨by rw [hbe]; rfl, hB1, hop1⟩
    · have hd : decide ((2 : Int) ≤ n) = true := decide_eq_true (by omega)
      have d1 := ds h1
      clear ds
      go_wp2_with fail
      go_region
      go_wp2_with fail
      go_meet
      exact ⟨rfl, below_drew hB1, hop1⟩
  case rest =>
  obtain ⟨rfl, hB2, hop2⟩ := hcut
  obtain ⟨e0, e1, e2, e4⟩ := opC_cell hop2
  clear ds d0 hop1 hB1
  have d0 := (HG.out wc hB2).cell.1
  rw [HN.out] at d0
  have hvn := HN.out
  by_cases h2 : n < 1
  · have hd : decide ((n : Int) < 1) = true := decide_eq_true (by omega)
    have HR : Hid (dropF vs = (4, vs)) := by unfold dropF; rw [if_pos (by omega)]; exact rfl
    clear hvn
    go_wp2_with fail
    go_ret3
    exact ⟨0, [], 4, none, 0, 0, rfl, hB2, (fun e => by cases e), (fun _ => ⟨Nat.zero_le _, by simp⟩), by rw [HR.out]; exact fin_err _ _ _ (by decide)⟩
  have hd : decide ((n : Int) < 1) = false := decide_eq_false (by omega)
  have ET : text (top vs) = tb := by rw [← HTB.out]; unfold bT; rw [if_neg (by omega)]
  have HR : Hid (dropF vs = (0, vs.take (vs.length - 1))) := by unfold dropF; rw [if_neg (by omega)]; exact rfl
  clear hvn ET
  go_wp2_with fail
  go_ret3
  exact ⟨1, [], 0, none, 0, 0, rfl, hB2, fun _ => strs_nil _ _, (fun _ => ⟨by rw [HN.out]; omega, by simp⟩), by rw [HR.out]; exact fin_nil _ _ (by rw [HN.out]; omega)⟩
set_option maxRecDepth 100000 in
set_option maxHeartbeats 2000000 in
theorem owes_topInt (h : GhostAt w G vs) (hok : Okay vs) (hwf : ∀ v ∈ vs, Wf v) (a b c : Int) (S T : List UInt8) :
    Calls Try.prog 31 #[.pointer (some ⟨G, 0, none⟩), opV 11 a b c S T] w (OwesOut w vs ((topIntF vs).2, vs)) := by
  have hA : Below w.heap.size w (w.alloc (.cells (opC 11 a b c S T) 30)) := below_alloc (Below.refl _ _)
  have HG : Hid (∀ w1, Below w.heap.size w w1 → GhostAt w1 G vs) := fun w1 hb => h.below hb
  have d0 := (h.below hA).cell.1
  have dt := (h.below hA).top
  have hn5 := hok.1
  have hal := aT_len hok
  have hbl := bT_len hok
  have HN : Hid (vs.length = vs.length) := rfl
  clear h
  generalize hTA : aT vs = ta at *
  generalize hTB : bT vs = tb at *
  have HTA := hide hTA
  have HTB := hide hTB
  clear hTA hTB
  generalize hn : vs.length = n at *
  replace HN := hide hn
  replace HN : Hid (vs.length = n) := hn
  clear hn
  unfold opV
  unfold opC at hA d0 dt
  go_enter Try.func31, Try.ntmps31
  go_upto_if 42 with fail
  go_cut [8] from 38 to 57 (fun s8 wx => s8 = .string (str tb) ∧ Below w.heap.size w wx ∧ wx.heap[w.heap.size]? = some (.cells (opC 11 a b c S T) 30))
  case first =>
    by_cases h1 : n < 1
    · have hd : decide ((1 : Int) ≤ n) = false := decide_eq_false (by omega)
      have hbe : tb = [] := by rw [← HTB.out]; unfold bT; rw [HN.out, if_pos h1]
      go_wp2_with fail
      go_meet
      exact ⟨by rw [hbe]; rfl, hA, heap_alloc_new _ _⟩
    · have hd : decide ((1 : Int) ≤ n) = true := decide_eq_true (by omega)
      have d1 := dt h1
      clear dt
      go_wp2_with fail
      go_region
      go_wp2_with fail
      go_meet
      exact ⟨rfl, below_drew hA, heap_alloc_new _ _⟩
  case rest =>
  obtain ⟨rfl, hB1, hop1⟩ := hcut
  have d0 := (HG.out wc hB1).cell.1
  have ds := (HG.out wc hB1).sub
  rw [HN.out] at d0 ds
  rw [HTA.out] at ds
  clear dt hA
  go_upto_if 57 with fail
  go_cut [7] from 43 to 69 (fun s7 wx => s7 = .string (str ta) ∧ Below w.heap.size w wx ∧ wx.heap[w.heap.size]? = some (.cells (opC 11 a b c S T) 30))
  case first =>
    by_cases h1 : n < 2
    · have hd : decide ((2 : Int) ≤ n) = false := decide_eq_false (by omega)
      have hbe : ta = [] := by rw [← HTA.out]; unfold aT; rw [HN.out, if_pos h1]
      go_wp2_with fail
      go_meet
      exact ⟨by rw [hbe]; rfl, hB1, hop1⟩
    · have hd : decide ((2 : Int) ≤ n) = true := decide_eq_true (by omega)
      have d1 := ds h1
      clear ds
      go_wp2_with fail
      go_region
      go_wp2_with fail
      go_meet
      exact ⟨rfl, below_drew hB1, hop1⟩
  case rest =>
  obtain ⟨rfl, hB2, hop2⟩ := hcut
  obtain ⟨e0, e1, e2, e4⟩ := opC_cell hop2
  clear ds d0 hop1 hB1
  have d0 := (HG.out wc hB2).cell.1
  rw [HN.out] at d0
  have hvn := HN.out
  by_cases h2 : n < 1
  · have hd : decide ((n : Int) < 1) = true := decide_eq_true (by omega)
    have HR : Hid ((topIntF vs).2 = 4) := by unfold topIntF; rw [if_pos (by omega)]; exact rfl
    clear hvn
    go_wp2_with fail
    go_ret3
    exact ⟨0, [], 4, none, 0, 0, rfl, hB2, (fun e => by cases e), (fun _ => ⟨Nat.zero_le _, by simp⟩), by rw [HR.out]; exact fin_err _ _ _ (by decide)⟩
  have hd : decide ((n : Int) < 1) = false := decide_eq_false (by omega)
  have ET : text (top vs) = tb := by rw [← HTB.out]; unfold bT; rw [if_neg (by omega)]
  have hwt : Wf (top vs) := hwf _ (List.mem_of_getElem? (top_at (by omega)))
  have HR : Hid ((topIntF vs).2 = if kind (top vs) = 1 then 0 else 2) := by
    show (topIntF vs).2 = _
    unfold topIntF; rw [if_neg (by omega)]; split <;> rfl
  have hkk := kindOf_at hwt (by rw [ET]; omega)
  rw [ET] at hkk
  have hk := hide hkk
  clear hvn ET hwt hwf hkk
  by_cases h3 : kind (top vs) = 1
  · have hne : ((kind (top vs) : Int) != 1) = false := by simp [h3]
    generalize kind (top vs) = kk at *
    go_wp2_with (go_at_call 63; refine (hk.out _).mono ?_; rintro e w' ⟨rfl, hw⟩; subst w')
    go_ret3
    refine ⟨0, [], 0, none, 0, 0, rfl, hB2, fun _ => strs_nil _ _, (fun _ => ⟨Nat.zero_le _, by simp⟩), ?_⟩
    rw [HR.out, if_pos h3, fin_nil _ _ (by rw [HN.out]; omega)]
    simp
  · have hne : ((kind (top vs) : Int) != 1) = true := by simp; omega
    generalize kind (top vs) = kk at *
    go_wp2_with (go_at_call 63; refine (hk.out _).mono ?_; rintro e w' ⟨rfl, hw⟩; subst w')
    go_ret3
    exact ⟨0, [], 2, none, 0, 0, rfl, hB2, (fun e => by cases e), (fun _ => ⟨Nat.zero_le _, by simp⟩), by rw [HR.out, if_neg h3]; exact fin_err _ _ _ (by decide)⟩
set_option maxRecDepth 100000 in
set_option maxHeartbeats 2000000 in
theorem owes_none (h : GhostAt w G vs) (hok : Okay vs) (hwf : ∀ v ∈ vs, Wf v) (a b c : Int) (S T : List UInt8) (k : Int) (hk : k < 1 ∨ 12 < k) :
    Calls Try.prog 31 #[.pointer (some ⟨G, 0, none⟩), opV k a b c S T] w (OwesOut w vs (0, vs)) := by
  have n1 : (k == 1) = false := beq_false_of_ne (by show k ≠ 1; omega)
  have n2 : (k == 2) = false := beq_false_of_ne (by show k ≠ 2; omega)
  have n3 : (k == 3) = false := beq_false_of_ne (by show k ≠ 3; omega)
  have n4 : (k == 4) = false := beq_false_of_ne (by show k ≠ 4; omega)
  have n5 : (k == 5) = false := beq_false_of_ne (by show k ≠ 5; omega)
  have n6 : (k == 6) = false := beq_false_of_ne (by show k ≠ 6; omega)
  have n7 : (k == 7) = false := beq_false_of_ne (by show k ≠ 7; omega)
  have n8 : (k == 8) = false := beq_false_of_ne (by show k ≠ 8; omega)
  have n9 : (k == 9) = false := beq_false_of_ne (by show k ≠ 9; omega)
  have n10 : (k == 10) = false := beq_false_of_ne (by show k ≠ 10; omega)
  have n11 : (k == 11) = false := beq_false_of_ne (by show k ≠ 11; omega)
  have n12 : (k == 12) = false := beq_false_of_ne (by show k ≠ 12; omega)
  clear hk
  have hA : Below w.heap.size w (w.alloc (.cells (opC k a b c S T) 30)) := below_alloc (Below.refl _ _)
  have HG : Hid (∀ w1, Below w.heap.size w w1 → GhostAt w1 G vs) := fun w1 hb => h.below hb
  have d0 := (h.below hA).cell.1
  have dt := (h.below hA).top
  have hn5 := hok.1
  have hal := aT_len hok
  have hbl := bT_len hok
  have HN : Hid (vs.length = vs.length) := rfl
  clear h
  generalize hTA : aT vs = ta at *
  generalize hTB : bT vs = tb at *
  have HTA := hide hTA
  have HTB := hide hTB
  clear hTA hTB
  generalize hn : vs.length = n at *
  replace HN := hide hn
  replace HN : Hid (vs.length = n) := hn
  clear hn
  unfold opV
  unfold opC at hA d0 dt
  go_enter Try.func31, Try.ntmps31
  go_upto_if 42 with fail
  go_cut [8] from 38 to 57 (fun s8 wx => s8 = .string (str tb) ∧ Below w.heap.size w wx ∧ wx.heap[w.heap.size]? = some (.cells (opC k a b c S T) 30))
  case first =>
    by_cases h1 : n < 1
    · have hd : decide ((1 : Int) ≤ n) = false := decide_eq_false (by omega)
      have hbe : tb = [] := by rw [← HTB.out]; unfold bT; rw [HN.out, if_pos h1]
      go_wp2_with fail
      go_meet
      exact ⟨by rw [hbe]; rfl, hA, heap_alloc_new _ _⟩
    · have hd : decide ((1 : Int) ≤ n) = true := decide_eq_true (by omega)
      have d1 := dt h1
      clear dt
      go_wp2_with fail
      go_region
      go_wp2_with fail
      go_meet
      exact ⟨rfl, below_drew hA, heap_alloc_new _ _⟩
  case rest =>
  obtain ⟨rfl, hB1, hop1⟩ := hcut
  have d0 := (HG.out wc hB1).cell.1
  have ds := (HG.out wc hB1).sub
  rw [HN.out] at d0 ds
  rw [HTA.out] at ds
  clear dt hA
  go_upto_if 57 with fail
  go_cut [7] from 43 to 69 (fun s7 wx => s7 = .string (str ta) ∧ Below w.heap.size w wx ∧ wx.heap[w.heap.size]? = some (.cells (opC k a b c S T) 30))
  case first =>
    by_cases h1 : n < 2
    · have hd : decide ((2 : Int) ≤ n) = false := decide_eq_false (by omega)
      have hbe : ta = [] := by rw [← HTA.out]; unfold aT; rw [HN.out, if_pos h1]
      go_wp2_with fail
      go_meet
      exact ⟨by rw [hbe]; rfl, hB1, hop1⟩
    · have hd : decide ((2 : Int) ≤ n) = true := decide_eq_true (by omega)
      have d1 := ds h1
      clear ds
      go_wp2_with fail
      go_region
      go_wp2_with fail
      go_meet
      exact ⟨rfl, below_drew hB1, hop1⟩
  case rest =>
  obtain ⟨rfl, hB2, hop2⟩ := hcut
  obtain ⟨e0, e1, e2, e4⟩ := opC_cell hop2
  clear ds d0 hop1 hB1
  have d0 := (HG.out wc hB2).cell.1
  rw [HN.out] at d0
  have hd : decide ((n : Int) < 0) = false := decide_eq_false (by omega)
  go_wp2_with fail
  go_ret3
  refine ⟨0, [], 0, none, 0, 0, rfl, hB2, fun _ => strs_nil _ _, (fun _ => ⟨Nat.zero_le _, by simp⟩), ?_⟩
  rw [fin_nil _ _ (by rw [HN.out]; omega)]
  simp
set_option maxRecDepth 100000 in
set_option maxHeartbeats 2000000 in
theorem owes_push (h : GhostAt w G vs) (hok : Okay vs) (hwf : ∀ v ∈ vs, Wf v) (a b c : Int) (S T : List UInt8) (hb : I64 b) :
    Calls Try.prog 31 #[.pointer (some ⟨G, 0, none⟩), opV 1 a b c S T] w (OwesOut w vs (pushF a b S vs)) := by
  have hA : Below w.heap.size w (w.alloc (.cells (opC 1 a b c S T) 30)) := below_alloc (Below.refl _ _)
  have HG : Hid (∀ w1, Below w.heap.size w w1 → GhostAt w1 G vs) := fun w1 hb => h.below hb
  have d0 := (h.below hA).cell.1
  have dt := (h.below hA).top
  have hn5 := hok.1
  have hal := aT_len hok
  have hbl := bT_len hok
  have HN : Hid (vs.length = vs.length) := rfl
  clear h
  generalize hTA : aT vs = ta at *
  generalize hTB : bT vs = tb at *
  have HTA := hide hTA
  have HTB := hide hTB
  clear hTA hTB
  generalize hn : vs.length = n at *
  replace HN := hide hn
  replace HN : Hid (vs.length = n) := hn
  clear hn
  unfold opV
  unfold opC at hA d0 dt
  go_enter Try.func31, Try.ntmps31
  go_upto_if 42 with fail
  go_cut [8] from 38 to 57 (fun s8 wx => s8 = .string (str tb) ∧ Below w.heap.size w wx ∧ wx.heap[w.heap.size]? = some (.cells (opC 1 a b c S T) 30))
  case first =>
    by_cases h1 : n < 1
    · have hd : decide ((1 : Int) ≤ n) = false := decide_eq_false (by omega)
      have hbe : tb = [] := by rw [← HTB.out]; unfold bT; rw [HN.out, if_pos h1]
      go_wp2_with fail
      go_meet
      exact ⟨by rw [hbe]; rfl, hA, heap_alloc_new _ _⟩
    · have hd : decide ((1 : Int) ≤ n) = true := decide_eq_true (by omega)
      have d1 := dt h1
      clear dt
      go_wp2_with fail
      go_region
      go_wp2_with fail
      go_meet
      exact ⟨rfl, below_drew hA, heap_alloc_new _ _⟩
  case rest =>
  obtain ⟨rfl, hB1, hop1⟩ := hcut
  have d0 := (HG.out wc hB1).cell.1
  have ds := (HG.out wc hB1).sub
  rw [HN.out] at d0 ds
  rw [HTA.out] at ds
  clear dt hA
  go_upto_if 57 with fail
  go_cut [7] from 43 to 69 (fun s7 wx => s7 = .string (str ta) ∧ Below w.heap.size w wx ∧ wx.heap[w.heap.size]? = some (.cells (opC 1 a b c S T) 30))
  case first =>
    by_cases h1 : n < 2
    · have hd : decide ((2 : Int) ≤ n) = false := decide_eq_false (by omega)
      have hbe : ta = [] := by rw [← HTA.out]; unfold aT; rw [HN.out, if_pos h1]
      go_wp2_with fail
      go_meet
      exact ⟨by rw [hbe]; rfl, hB1, hop1⟩
    · have hd : decide ((2 : Int) ≤ n) = true := decide_eq_true (by omega)
      have d1 := ds h1
      clear ds
      go_wp2_with fail
      go_region
      go_wp2_with fail
      go_meet
      exact ⟨rfl, below_drew hB1, hop1⟩
  case rest =>
  obtain ⟨rfl, hB2, hop2⟩ := hcut
  obtain ⟨e0, e1, e2, e4⟩ := opC_cell hop2
  clear ds d0 hop1 hB1
  have d0 := (HG.out wc hB2).cell.1
  rw [HN.out] at d0
  have hvn := HN.out
  have hd : decide ((n : Int) < 0) = false := decide_eq_false (by omega)
  by_cases hs6 : 6 < S.length
  · have hq : decide ((S.length : Int) > 6) = true := decide_eq_true (by omega)
    have HR : Hid (pushF a b S vs = (1, vs)) := by unfold pushF; rw [if_pos hs6]; exact rfl
    clear hvn
    go_wp2_with fail
    go_ret3
    exact ⟨0, [], 1, none, 0, 0, rfl, hB2, (fun e => by cases e), (fun _ => ⟨Nat.zero_le _, by simp⟩), by rw [HR.out]; exact fin_err _ _ _ (by decide)⟩
  have hq : decide ((S.length : Int) > 6) = false := decide_eq_false (by omega)
  have HF : Hid (∀ v : V, (text v).length ≤ 30 → fin vs 0 [v] 0 = if 5 ≤ vs.length then (3, vs) else lay 0 v vs) := fun v hv => by
    rw [fin_one, if_neg (by omega)]
    by_cases h5 : 5 ≤ vs.length
    · rw [if_pos h5, if_pos (by omega)]
    · rw [if_neg h5, if_neg (by omega)]
  by_cases ha1 : a = 1
  · have HR : Hid (pushF a b S vs = if 5 ≤ vs.length then (3, vs) else lay 0 (vint b) vs) := by unfold pushF; rw [if_neg hs6, if_pos ha1]; exact rfl
    have q1 : (a == 1) = true := by simp [ha1]
    have hit := hide (itoa_calls b wc hb)
    have HL := hide (text_vint b)
    clear hvn ha1
    rw [text_int] at HL
    generalize hib : itoa b = ib at *
    have HIB := hide hib
    clear hib
    go_wp2_with (go_at_call 33; refine hit.out.mono ?_; rintro e w1 ⟨rfl, hb1⟩)
    go_ret3
    have hB3 := below_next hB2 hb1
    refine ⟨0, [vint b], 0, _, 1, 1, rfl, below_alloc hB3, fun _ => strs_one ?_ hB3.size, (fun _ => ⟨Nat.zero_le _, by simp⟩), ?_⟩
    · rw [text_int, HIB.out]; exact heap_alloc_new _ _
    · rw [HR.out]; exact HF.out _ (by rw [text_int, HIB.out]; exact HL.out)
  have q1 : (a == 1) = false := beq_false_of_ne ha1
  by_cases ha2 : a = 2
  · have HR : Hid (pushF a b S vs = if 5 ≤ vs.length then (3, vs) else lay 0 (vstr S) vs) := by unfold pushF; rw [if_neg hs6, if_neg ha1, if_pos ha2]; exact rfl
    have q2 : (a == 2) = true := by simp [ha2]
    have hit := hide (itoa_calls S.length wc (nat_i64 (by omega)))
    have hil := itoa_length S.length
    have HX : Hid (text (vstr S) = itoa S.length ++ 58 :: S) := text_str S
    clear hvn ha1 ha2
    generalize itoa (S.length : Int) = ib at *
    go_wp2_with (go_at_call 33; refine hit.out.mono ?_; rintro e w1 ⟨rfl, hb1⟩; have f4 := (opC_cell ((hb1.block _ (lt_of_heap hop2)).trans hop2)).2.2.2)
    go_region
    go_wp2_with fail
    go_ret3
    have hB3 := below_next hB2 hb1
    refine ⟨0, [vstr S], 0, _, 1, 1, rfl, below_drew (below_alloc hB3), fun _ => strs_one ?_ hB3.size, (fun _ => ⟨Nat.zero_le _, by simp⟩), ?_⟩
    · rw [HX.out]; exact heap_alloc_new _ _
    · rw [HR.out]; exact HF.out _ (by rw [HX.out]; simp; omega)
  have q2 : (a == 2) = false := beq_false_of_ne ha2
  by_cases ha3 : a = 3
  · have HR : Hid (pushF a b S vs = if 5 ≤ vs.length then (3, vs) else lay 0 .nil vs) := by unfold pushF; rw [if_neg hs6, if_neg ha1, if_neg ha2, if_pos ha3]; exact rfl
    have q3 : (a == 3) = true := by simp [ha3]
    clear hvn ha1 ha2 ha3
    go_wp2_with fail
    go_ret3
    refine ⟨0, [.nil], 0, _, 1, 1, rfl, below_alloc hB2, fun _ => strs_one ?_ hB2.size, (fun _ => ⟨Nat.zero_le _, by simp⟩), ?_⟩
    · exact heap_alloc_new _ _
    · rw [HR.out]; exact HF.out _ (by decide)
  have q3 : (a == 3) = false := beq_false_of_ne ha3
  have HR : Hid (pushF a b S vs = (2, vs)) := by unfold pushF; rw [if_neg hs6, if_neg ha1, if_neg ha2, if_neg ha3]; exact rfl
  clear hvn ha1 ha2 ha3
  go_wp2_with fail
  go_ret3
  exact ⟨0, [], 2, none, 0, 0, rfl, hB2, (fun e => by cases e), (fun _ => ⟨Nat.zero_le _, by simp⟩), by rw [HR.out]; exact fin_err _ _ _ (by decide)⟩
end
end Go.Proofs.Qxb6500606a
