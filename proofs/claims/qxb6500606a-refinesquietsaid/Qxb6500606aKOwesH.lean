/-
  Keeps: Owes, kind by kind: Extra. (Seat 606 alone.)
-/
import Derived.Test.Qxb6500606aKPlain
import Derived.OwnWalk
namespace Go.Proofs.Qxb6500606a
open Go.ChangeShapes Go.WideShapes Go.ChangeAt Go.RowKit
attribute [local go_sem] str_size str_app str_app1 str_1app str_toList str_get
set_option linter.unusedVariables false

section
variable {w : World} {G : Nat} {vs : St}
theorem echo_cur {cur : Array Value} {vs : St} {n : Nat} (hn : vs.length = n) (hs : cur.size = 2 * n) (h : ∀ i, i < n → cur[n - 1 - i]? = some (.string (str (text (vs.getD i .nil)))) ∧ cur[n + i]? = some (.string (str (text (vs.getD i .nil))))) : cur.toList = strs (vs.reverse ++ vs) := by
  apply List.ext_getElem?
  intro k
  unfold strs
  rw [List.getElem?_map]
  by_cases hk : k < n
  · have h1 := (h (n - 1 - k) (by omega)).1
    rw [show n - 1 - (n - 1 - k) = k by omega] at h1
    rw [List.getElem?_append_left (by simp; omega), List.getElem?_reverse (by omega), hn]
    rw [Array.getElem?_toList, h1, List.getD_eq_getElem?_getD, List.getElem?_eq_getElem (by omega : n - 1 - k < vs.length)]
    rfl
  · by_cases hk2 : k < 2 * n
    · have h1 := (h (k - n) (by omega)).2
      rw [show n + (k - n) = k by omega] at h1
      rw [List.getElem?_append_right (by simp; omega), List.length_reverse, hn]
      rw [Array.getElem?_toList, h1, List.getD_eq_getElem?_getD, List.getElem?_eq_getElem (by omega : k - n < vs.length)]
      rfl
    · rw [List.getElem?_eq_none (by simp; omega), List.getElem?_eq_none (by simp; omega)]
      rfl
set_option maxRecDepth 100000 in
set_option maxHeartbeats 2000000 in
theorem owes_echo (h : GhostAt w G vs) (hok : Okay vs) (hwf : ∀ v ∈ vs, Wf v) (b c : Int) (S T : List UInt8) :
    Calls Try.prog 31 #[.pointer (some ⟨G, 0, none⟩), opV 12 3 b c S T] w (OwesOut w vs (extraF 3 vs)) := by
  have hGl := lt_of_heap h.choose_spec.choose_spec.choose_spec.choose_spec.choose_spec.1
  have hA : Below w.heap.size w (w.alloc (.cells (opC 12 3 b c S T) 30)) := below_alloc (Below.refl _ _)
  have HG : Hid (∀ w1, Below w.heap.size w w1 → GhostAt w1 G vs) := fun w1 hb => h.below hb
  have d0 := (h.below hA).cell.1
  have dt := (h.below hA).top
  have hn5 := hok.1
  have hal := aT_len hok
  have hbl := bT_len hok
  have HN : Hid (vs.length = vs.length) := rfl
  clear h
  generalize hTA : aT vs = ta at *
  generalize hTB : bT vs = tb at *
  have HTA := hide hTA
  have HTB := hide hTB
  clear hTA hTB
  generalize hn : vs.length = n at *
  replace HN := hide hn
  replace HN : Hid (vs.length = n) := hn
  clear hn
  unfold opV
  unfold opC at hA d0 dt
  go_enter Try.func31, Try.ntmps31
  go_upto_if 42 with fail
  go_cut [8] from 38 to 57 (fun s8 wx => s8 = .string (str tb) ∧ Below w.heap.size w wx ∧ wx.heap[w.heap.size]? = some (.cells (opC 12 3 b c S T) 30))
  case first =>
    by_cases h1 : n < 1
    · have hd : decide ((1 : Int) ≤ n) = false := decide_eq_false (by omega)
      have hbe : tb = [] := by rw [← HTB.out]; unfold bT; rw [HN.out, if_pos h1]
      go_wp2_with fail
      go_meet
      exact ⟨by rw [hbe]; rfl, hA, heap_alloc_new _ _⟩
    · have hd : decide ((1 : Int) ≤ n) = true := decide_eq_true (by omega)
      have d1 := dt h1
      clear dt
      go_wp2_with fail
      go_region
      go_wp2_with fail
      go_meet
      exact ⟨rfl, below_drew hA, heap_alloc_new _ _⟩
  case rest =>
  obtain ⟨rfl, hB1, hop1⟩ := hcut
  have d0 := (HG.out wc hB1).cell.1
  have ds := (HG.out wc hB1).sub
  rw [HN.out] at d0 ds
  rw [HTA.out] at ds
  clear dt hA
  go_upto_if 57 with fail
  go_cut [7] from 43 to 69 (fun s7 wx => s7 = .string (str ta) ∧ Below w.heap.size w wx ∧ wx.heap[w.heap.size]? = some (.cells (opC 12 3 b c S T) 30))
  case first =>
    by_cases h1 : n < 2
    · have hd : decide ((2 : Int) ≤ n) = false := decide_eq_false (by omega)
      have hbe : ta = [] := by rw [← HTA.out]; unfold aT; rw [HN.out, if_pos h1]
      go_wp2_with fail
      go_meet
      exact ⟨by rw [hbe]; rfl, hB1, hop1⟩
    · have hd : decide ((2 : Int) ≤ n) = true := decide_eq_true (by omega)
      have d1 := ds h1
      clear ds
      go_wp2_with fail
      go_region
      go_wp2_with fail
      go_meet
      exact ⟨rfl, below_drew hB1, hop1⟩
  case rest =>
  obtain ⟨rfl, hB2, hop2⟩ := hcut
  obtain ⟨e0, e1, e2, e4⟩ := opC_cell hop2
  clear ds d0 hop1 hB1
  have d0 := (HG.out wc hB2).cell.1
  rw [HN.out] at d0
  have hvn := HN.out
  have hd : decide ((n : Int) < 0) = false := decide_eq_false (by omega)
  have HE : Hid (extraF 3 vs = if 5 < 2 * n then (3, vs) else (0, vs.reverse ++ vs)) := by show extraF 3 vs = _; rw [← hvn]; rfl
  obtain ⟨iv, hiv, hz, hsz, hby⟩ := info_parts infoS
  have HOK := hide hok
  have hGB : G < w.heap.size := hGl
  have hBz := hB2.size
  clear hvn hwf hok
  go_wp2_with (refine wpList_make_full _ rfl _ _ 54 rfl 0 9 iv (.string { data := #[] }) 1 Try.underlying54 hiv hz hsz .i64 .i64 (2 * ↑n) (2 * ↑n) (2 * n) rfl rfl (by omega) (by omega) (by rw [hby]; omega) (by unfold maxLen; omega) (Nat.zero_le _) ?_; intro w1 ow1 gr1; have hb1 := below_grown (Below.refl _ wc) gr1 (fun k hk => by cases hk); have OW1 := hide ow1; clear ow1 gr1)
  have hB3 := below_next hB2 hb1
  have hcur : ∃ cur, w1.heap[wc.heap.size]? = some (.cells cur 9 (0, 0)) ∧ cur.size = 2 * n := by
    rcases OW1.out.2 with ⟨e, _⟩ | ⟨g, cap, cur, e, _, hh, _, _, hsz, _⟩
    · cases e
    · cases e; exact ⟨cur, hh, by omega⟩
  clear OW1 e0 e1 e2 e4 d0 hop2 hb1
  generalize hBB : wc.heap.size = B at *
  go_loopw [29] (fun x W => ∃ (j : Nat) (cur : Array Value), x = .int .i64 j ∧ j ≤ n ∧ W.heap[B]? = some (.cells cur 9 (0, 0)) ∧ cur.size = 2 * n ∧ (∀ i, i < j → cur[n - 1 - i]? = some (.string (str (text (vs.getD i .nil)))) ∧ cur[n + i]? = some (.string (str (text (vs.getD i .nil))))) ∧ Below w.heap.size w W) (fun x W => n - (intOf x).toNat)
  case atStart =>
    obtain ⟨cur, h1, h2⟩ := hcur
    exact ⟨0, cur, rfl, Nat.zero_le _, h1, h2, (fun i hi => by omega), hB3⟩
  case round =>
    obtain ⟨j, cur, rfl, hj, hrow, hcs, hset, hbw⟩ := hrel
    have d0 := (HG.out wr hbw).cell.1
    rw [HN.out] at d0
    by_cases hjl : j < n
    · have hvj : vs[j]? = some (vs.getD j .nil) := by
        rw [List.getD_eq_getElem?_getD, List.getElem?_eq_getElem (by rw [HN.out]; exact hjl)]; rfl
      have dj := (HG.out wr hbw).cell.2 j _ hvj
      have hd1 : decide ((j : Int) < n) = true := decide_eq_true (by omega)
      obtain ⟨k, hk⟩ : ∃ k : Nat, (n : Int) - 1 - j = k := ⟨n - 1 - j, by omega⟩
      have hk1 : k < 2 * n := by omega
      have hj2 : n + j < 2 * n := by omega
      have hkn : k = n - 1 - j := by omega
      have hklt : k < n := by omega
      obtain ⟨x1, hx1⟩ : ∃ x, cur[k]? = some x := ⟨_, Array.getElem?_eq_getElem (by omega)⟩
      obtain ⟨x2, hx2⟩ : ∃ x, cur[n + j]? = some x := ⟨_, Array.getElem?_eq_getElem (by omega)⟩
      have f1 : wr.cell? ⟨B, k, none⟩ = some x1 := by simp [World.cell?, hrow, hx1]
      have f2 : wr.cell? ⟨B, n + j, none⟩ = some x2 := by simp [World.cell?, hrow, hx2]
      have z1 : wr.frozen? ⟨B, k, none⟩ = false := frozen_of_row wr B k _ _ hrow
      have z2 : wr.frozen? ⟨B, n + j, none⟩ = false := frozen_of_row wr B (n + j) _ _ hrow
      have hGne : G ≠ B := by omega
      have hBne : B ≠ G := by omega
      have hj5 : j < 5 := by omega
      have HSET := hide hset
      have HROW := hide hrow
      have HK := hide hkn
      have HCS := hide hcs
      clear hset hvj hkn hrow hcs hx1 hx2
      generalize hTV : text (vs.getD j .nil) = tv at *
      have HTV := hide hTV
      clear hTV
      go_wp2_with fail
      go_region
      go_wp2_with fail
      go_region
      go_wp2_with fail
      go_roundw
      case rel =>
        have hr1 := heap_setCell_same wr B k _ _ (.string (str tv)) HROW.out
        have hr2 := heap_setCell_same (wr.setCell ⟨B, k, none⟩ (.string (str tv))) B (n + j) _ _ (.string (str tv)) hr1
        refine ⟨j + 1, _, by go_num, by omega, hr2, by simp [HCS.out], fun i hi => ?_, ?_⟩
        · have hk3 := HK.out
          have hc3 := HCS.out
          by_cases hij : i = j
          · subst hij
            rw [HTV.out, ← hk3]
            refine ⟨?_, ?_⟩
            · rw [Array.getElem?_setIfInBounds_ne (by omega), Array.getElem?_setIfInBounds_self_of_lt (by omega)]
            · rw [Array.getElem?_setIfInBounds_self_of_lt (by simp; omega)]
          · have hs := HSET.out i (by omega)
            rw [Array.getElem?_setIfInBounds_ne (by omega), Array.getElem?_setIfInBounds_ne (by omega), Array.getElem?_setIfInBounds_ne (by omega), Array.getElem?_setIfInBounds_ne (by omega)]
            exact hs
        · exact below_drew ((below_drew (hbw.setCell (p := ⟨B, k, none⟩) (by show w.heap.size ≤ B; omega) _)).setCell (p := ⟨B, n + j, none⟩) (by show w.heap.size ≤ B; omega) _)
      case measure => simp [intOf]; omega
    · have e : j = n := by omega
      subst e
      have hd1 : decide ((j : Int) < j) = false := decide_eq_false (by omega)
      have HST : Hid (Strs wr w.heap.size (.slice (some ⟨B, 0, none⟩) (2 * j) (2 * j)) (vs.reverse ++ vs)) := by
        have hl : (vs.reverse ++ vs).length = 2 * j := by simp [HN.out]; omega
        have ec := echo_cur HN.out hcs hset
        refine ⟨by simp [strs], .inr ⟨B, 2 * j, cur, by rw [hl], by omega, hrow, by omega, by unfold maxLen; omega, by omega, ?_⟩⟩
        rw [ec, List.take_of_length_le (by simp [strs])]
      clear hset hrow hcs
      go_wp2_with fail
      go_ret3
      refine ⟨j, vs.reverse ++ vs, 0, _, 2 * j, 2 * j, rfl, hbw, fun _ => HST.out, (fun _ => ⟨by rw [HN.out]; omega, by have := HN.out; simp; omega⟩), ?_⟩
      rw [HE.out]
      unfold fin
      rw [if_neg (by simp), if_neg]
      · have e1 : vs.length - j + (vs.reverse ++ vs).length = 2 * j := by have := HN.out; simp; omega
        have e2 : vs.length - j = 0 := by rw [HN.out]; omega
        rw [e1, e2]
        rfl
      · simp only [List.any_eq_true, decide_eq_true_eq]
        rintro ⟨u, hu, hlt⟩
        have hm : u ∈ vs := by simpa using hu
        have := HOK.out.2 u hm
        omega
end
end Go.Proofs.Qxb6500606a
