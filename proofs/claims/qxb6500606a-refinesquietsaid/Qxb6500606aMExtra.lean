/-
  The model valsm: Extra: no such word, quot, double. (Seat 606 alone.)
-/
import Derived.Test.Qxb6500606aMAdd
namespace Go.Proofs.Qxb6500606a
open Go.ChangeShapes Go.WideShapes Go.ChangeAt Go.RowKit
attribute [local go_sem] str_size str_app str_app1 str_1app str_toList str_get
set_option linter.unusedVariables false

def MXWord (w : World) (m : Nat) (g : Option Nat) (k : Int) (r : Int × St) : Prop := Calls Try.prog 61 #[.pointer (some ⟨m, 0, none⟩), .int .i64 k] w fun e w' => e = .returned (.int .i64 r.1) ∧ MMoved w m g r.2 w'
section
variable {w : World} {m : Nat} {g : Option Nat} {vs : St}
set_option maxRecDepth 100000 in
set_option maxHeartbeats 2000000 in
theorem mx_none (h : MStk w m g vs) (k : Int) (h0 : k ≠ 0) (h2 : k ≠ 2) (h3 : k ≠ 3) (h4 : k ≠ 4) : MXWord w m g k (extraF k vs) := by
  obtain ⟨a, cap, c0⟩ := depth_c0 h
  have HR : Hid (extraF k vs = (9, vs)) := by show extraF k vs = _; unfold extraF; rw [if_neg h0, if_neg h2, if_neg h3, if_neg h4]
  have HH := hide h
  have q0 : (k != 0) = true := by simpa using h0
  have q2 : (k != 2) = true := by simpa using h2
  have q3 : (k != 3) = true := by simpa using h3
  have q4 : (k != 4) = true := by simpa using h4
  clear h h0 h2 h3 h4
  unfold MXWord
  go_enter Try.func61, Try.ntmps61
  go_wp2
  go_ret
  rw [HR.out]
  exact ⟨rfl, MMoved.same HH.out⟩
set_option maxRecDepth 100000 in
set_option maxHeartbeats 4000000 in
theorem mx_quot (h : MStk w m g vs) (hok : Okay vs) (hwf : ∀ v ∈ vs, Wf v) : MXWord w m g 4 (quotF vs) := by
  by_cases h0 : vs.length < 2
  · obtain ⟨a, cap, c0⟩ := depth_c0 h
    have HR : Hid (quotF vs = (5, vs)) := by show quotF vs = _; unfold quotF; rw [if_pos h0]
    have HH := hide h
    have hd : decide ((vs.length : Int) < 2) = true := decide_eq_true (by omega)
    clear h h0
    unfold MXWord
    go_enter Try.func61, Try.ntmps61
    go_wp2
    go_ret
    rw [HR.out]
    exact ⟨rfl, MMoved.same HH.out⟩
  · obtain ⟨b, cap, cs, cs2, c0, hR, hv, hR2, hv2, hbl, hgb⟩ := h.hasTwo (by omega)
    have HC : Hid (quotF vs = if kind (top vs) = 1 ∧ kind (subtop vs) = 1 ∧ num (top vs) ≠ 0 then lay 2 (vint (wr ((num (subtop vs)).tdiv (num (top vs))))) vs else (5, vs)) := by
      show quotF vs = _
      unfold quotF; rw [if_neg h0]
    have hwt := hwf _ (List.mem_of_getElem? (top_at (by omega)))
    have hws := hwf _ (List.mem_of_getElem? (sub_at (by omega)))
    obtain ⟨k1, _, rfl, hr1, _⟩ := hv.open4 hwt
    obtain ⟨k2, _, rfl, hr2, _⟩ := hv2.open4 hws
    obtain ⟨a1, p1, rfl, _⟩ := ownsRow_slice4 hr1.row
    obtain ⟨a2, p2, rfl, _⟩ := ownsRow_slice4 hr2.row
    obtain ⟨q, hq⟩ : ∃ q : Nat, (vs.length : Int) - 1 = q := ⟨vs.length - 1, by omega⟩
    obtain ⟨p, hp⟩ : ∃ p : Nat, (vs.length : Int) - 2 = p := ⟨vs.length - 2, by omega⟩
    have hq2 : vs.length - 1 = q := by omega
    have hp2 : vs.length - 2 = p := by omega
    rw [hq2] at hR
    rw [hp2] at hR2
    have hql : (q : Int) < vs.length := by omega
    have hql2 : q < vs.length := by omega
    have hpl2 : p < vs.length := by omega
    have hpl3 : (p : Int) < vs.length := by omega
    have hd : decide ((vs.length : Int) < 2) = false := decide_eq_false (by omega)
    have h5 := hok.1
    have hn2 : 2 ≤ vs.length := by omega
    have HH := hide h
    have hR2t := hide hR2
    have hmlt := h.lt.1
    have hW1 : Below w.heap.size w (w.alloc (.cells #[.int .i64 (kind (subtop vs)), .int .i64 (num (subtop vs)), .string (str (bytes (subtop vs))), .slice a2 (kidsOf (subtop vs)).length p2] 79)) := below_alloc (Below.refl _ _)
    have m1 := (hW1.cell (p := ⟨m, 0, none⟩) hmlt).trans c0
    have hRt1 := hide (range_below hR hbl hW1)
    have hW2 : Below w.heap.size w ((w.alloc (.cells #[.int .i64 (kind (subtop vs)), .int .i64 (num (subtop vs)), .string (str (bytes (subtop vs))), .slice a2 (kidsOf (subtop vs)).length p2] 79)).alloc (.cells #[.int .i64 (kind (top vs)), .int .i64 (num (top vs)), .string (str (bytes (top vs))), .slice a1 (kidsOf (top vs)).length p1] 79)) := below_alloc hW1
    have HW2 := hide hW2
    have hput : ∀ x : Int, I64 x → _ := fun x hx => put_calls (h.below hW2) hok.1 2 hn2 (.int x hx) (wf_vint hx) (by have := text_vint x; omega)
    clear h hok hwf h0 hR hR2 hv hv2 hwt hws hq2 hp2 hgb hr1 hr2 hW1 hW2
    generalize kind (top vs) = kt at *
    generalize kind (subtop vs) = ks at *
    generalize num (top vs) = y at *
    generalize num (subtop vs) = x at *
    generalize bytes (top vs) = sb1 at *
    generalize bytes (subtop vs) = sb2 at *
    generalize (kidsOf (top vs)).length = kl1 at *
    generalize (kidsOf (subtop vs)).length = kl2 at *
    by_cases hks : ks = 1
    · by_cases hkt : kt = 1
      · by_cases hy : y = 0
        · have HR : Hid (quotF vs = (5, vs)) := by show quotF vs = _; rw [HC.out, if_neg (by rintro ⟨_, _, e⟩; exact e hy)]
          subst hks hkt hy
          clear hput HC
          unfold MXWord
          go_enter Try.func61, Try.ntmps61
          go_wp2_with (first | (refine wpList_load_mid rfl 79 _ rfl b (p * 4) rfl [.int .i64 1, .int .i64 x, .string (str sb2), .slice a2 kl2 p2] _ hR2t.out Try.underlying79 rfl (info79 _ rfl) ?_) | (refine wpList_load_mid rfl 79 _ rfl b (q * 4) rfl [.int .i64 1, .int .i64 0, .string (str sb1), .slice a1 kl1 p1] _ hRt1.out Try.underlying79 rfl (info79 _ rfl) ?_))
          go_ret
          rw [HR.out]
          exact ⟨rfl, MMoved.below HH.out HW2.out⟩
        · have hyq : (y == 0) = false := beq_false_of_ne hy
          have hput2 := hide (hput (wr (x.tdiv y)) (wr_i64 _))
          have HR : Hid (quotF vs = putF 2 (vint (wr (x.tdiv y))) vs) := by
            show quotF vs = _
            rw [HC.out, if_pos ⟨hkt, hks, hy⟩, putF_room (text_vint _) h5 (by omega) hn2]
          have hw : wrap64 (x.tdiv y) = wr (x.tdiv y) := wr_eq _
          subst hks hkt
          clear hput HC
          generalize wr (x.tdiv y) = z at *
          unfold MXWord
          go_enter Try.func61, Try.ntmps61
          go_wp2_with (first | (refine wpList_load_mid rfl 79 _ rfl b (p * 4) rfl [.int .i64 1, .int .i64 x, .string (str sb2), .slice a2 kl2 p2] _ hR2t.out Try.underlying79 rfl (info79 _ rfl) ?_) | (refine wpList_load_mid rfl 79 _ rfl b (q * 4) rfl [.int .i64 1, .int .i64 y, .string (str sb1), .slice a1 kl1 p1] _ hRt1.out Try.underlying79 rfl (info79 _ rfl) ?_) | (go_at_call 81; refine hput2.out.mono ?_; rintro e w7 ⟨rfl, hm7⟩))
          go_ret
          rw [HR.out]
          exact ⟨rfl, MMoved.after HW2.out hm7⟩
      · have HR : Hid (quotF vs = (5, vs)) := by show quotF vs = _; rw [HC.out, if_neg (by rintro ⟨e, _⟩; exact hkt e)]
        have hne : ((kt : Int) != 1) = true := by simp; omega
        subst hks
        clear hput HC hkt
        unfold MXWord
        go_enter Try.func61, Try.ntmps61
        go_wp2_with (first | (refine wpList_load_mid rfl 79 _ rfl b (p * 4) rfl [.int .i64 1, .int .i64 x, .string (str sb2), .slice a2 kl2 p2] _ hR2t.out Try.underlying79 rfl (info79 _ rfl) ?_) | (refine wpList_load_mid rfl 79 _ rfl b (q * 4) rfl [.int .i64 kt, .int .i64 y, .string (str sb1), .slice a1 kl1 p1] _ hRt1.out Try.underlying79 rfl (info79 _ rfl) ?_))
        go_ret
        rw [HR.out]
        exact ⟨rfl, MMoved.below HH.out HW2.out⟩
    · have HR : Hid (quotF vs = (5, vs)) := by show quotF vs = _; rw [HC.out, if_neg (by rintro ⟨_, e, _⟩; exact hks e)]
      have hne : ((ks : Int) != 1) = true := by simp; omega
      clear hput HC hks
      unfold MXWord
      go_enter Try.func61, Try.ntmps61
      go_wp2_with (first | (refine wpList_load_mid rfl 79 _ rfl b (p * 4) rfl [.int .i64 ks, .int .i64 x, .string (str sb2), .slice a2 kl2 p2] _ hR2t.out Try.underlying79 rfl (info79 _ rfl) ?_) | (refine wpList_load_mid rfl 79 _ rfl b (q * 4) rfl [.int .i64 kt, .int .i64 y, .string (str sb1), .slice a1 kl1 p1] _ hRt1.out Try.underlying79 rfl (info79 _ rfl) ?_))
      go_ret
      rw [HR.out]
      exact ⟨rfl, MMoved.below HH.out HW2.out⟩
set_option maxRecDepth 100000 in
set_option maxHeartbeats 2000000 in
theorem mx_double_none (h : MStk w m g vs) (h0 : vs.length = 0) : MXWord w m g 0 (doubleF vs) := by
  obtain ⟨a, cap, c0⟩ := under_c0 h h0
  have HR : Hid (doubleF vs = (5, vs)) := by show doubleF vs = _; unfold doubleF; rw [if_pos h0]
  have HH := hide h
  clear h h0
  unfold MXWord
  go_enter Try.func61, Try.ntmps61
  go_wp2
  go_ret
  rw [HR.out]
  exact ⟨rfl, MMoved.same HH.out⟩
set_option maxRecDepth 100000 in
set_option maxHeartbeats 2000000 in
theorem mx_spread_none (h : MStk w m g vs) (h0 : vs.length = 0) : MXWord w m g 2 (spreadF vs) := by
  obtain ⟨a, cap, c0⟩ := under_c0 h h0
  have HR : Hid (spreadF vs = (5, vs)) := by show spreadF vs = _; unfold spreadF; rw [if_pos h0]
  have HH := hide h
  clear h h0
  unfold MXWord
  go_enter Try.func61, Try.ntmps61
  go_wp2
  go_ret
  rw [HR.out]
  exact ⟨rfl, MMoved.same HH.out⟩
set_option maxRecDepth 100000 in
set_option maxHeartbeats 4000000 in
theorem mx_double (h : MStk w m g vs) (hok : Okay vs) (hwf : ∀ v ∈ vs, Wf v) : MXWord w m g 0 (doubleF vs) := by
  by_cases h0 : vs.length = 0
  · exact mx_double_none h h0
  · obtain ⟨b, cap, cs, c0, hR, hv, hbl, hgb⟩ := h.hasTop (by omega)
    have hlt := hok.top (by omega)
    have hw := hwf _ (List.mem_of_getElem? (top_at (by omega)))
    obtain ⟨p, hp⟩ : ∃ p, vs.length = p + 1 := ⟨vs.length - 1, by omega⟩
    have hp4 : p < 5 := by have := hok.1; omega
    have h5 := hok.1
    have hn1 : 1 ≤ vs.length := by omega
    have HH := hide h
    have hglt := h.lt.2
    obtain ⟨n1, s1, a1, l1, p1, rfl⟩ := hv.cells
    have hW1 : Below w.heap.size w (w.alloc (.cells #[.int .i64 (kind (top vs)), .int .i64 n1, .string (str s1), .slice a1 l1 p1] 79)) := below_alloc (Below.refl _ _)
    have hplus := mplus_calls (hv.carry hW1) (hv.carry hW1) hw hw (fun x hx => Nat.lt_of_lt_of_le (hglt x hx) hW1.size) hlt hlt
    have HC : Hid (doubleF vs = if (plusF (top vs) (top vs)).1 ≠ 0 then ((plusF (top vs) (top vs)).1, vs) else lay 1 (plusF (top vs) (top vs)).2 vs) := by
      show doubleF vs = _
      unfold doubleF; rw [if_neg h0]
      by_cases hk4 : kind (top vs) = 4
      · have e1 : canAdd (top vs) = false := by simp [canAdd, hk4]
        have e2 : plusF (top vs) (top vs) = (5, .nil) := by unfold plusF; rw [if_pos hk4]
        rw [e1, e2]; rfl
      · have e1 : canAdd (top vs) = true := by simp [canAdd, hk4]
        rw [e1]; rfl
    have HWP : Hid ((plusF (top vs) (top vs)).1 = 0 → Wf (plusF (top vs) (top vs)).2 ∧ (text (plusF (top vs) (top vs)).2).length ≤ 30) := fun e => ⟨wf_plus hw hw e, plusF_text e⟩
    rw [hp] at c0
    rw [hp, Nat.add_sub_cancel] at hR
    have hR' := hide hR
    have hpl := hide hplus
    have HW1 := hide hW1
    clear h hok hwf h0 hR hv hw hlt hp hplus hW1 hgb
    generalize kind (top vs) = kk at *
    generalize plusF (top vs) (top vs) = r at *
    unfold MPlusOut at hpl
    unfold MXWord
    go_enter Try.func61, Try.ntmps61
    go_upto_region 31 with (first | (refine wpList_load_mid rfl 79 _ rfl b (p * 4) rfl [.int .i64 kk, .int .i64 n1, .string (str s1), .slice a1 l1 p1] _ hR'.out Try.underlying79 rfl (info79 _ rfl) ?_) | (go_at_call 82; refine hpl.out.mono ?_; rintro e w1 ⟨tR, nR, sR, aR, lR, cR, rfl, hb1, hmv⟩))
    have hb2 := below_next HW1.out hb1
    by_cases hr : r.1 = 0
    · have hq1 : (r.1 != 0) = false := by simp [hr]
      have hbA : Below w.heap.size w (w1.alloc (.cells #[.int .i64 tR, .int .i64 nR, .string (str sR), .slice aR lR cR] 79)) := below_alloc hb2
      have hput := hide (put_calls (HH.out.below hbA) h5 1 hn1 ((hmv hr).carry (below_alloc (Below.refl _ _))) (HWP.out hr).1 (by have := (HWP.out hr).2; omega))
      have HRR : Hid (doubleF vs = putF 1 r.2 vs) := by
        show doubleF vs = _
        rw [HC.out, if_neg (by simp [hr]), putF_room (HWP.out hr).2 h5 (by omega) hn1]
      have HBA := hide hbA
      clear hmv hr hbA
      go_wp2_with (first | (go_at_call 81; refine hput.out.mono ?_; rintro e w7 ⟨rfl, hm7⟩))
      go_ret
      rw [HRR.out]
      exact ⟨rfl, MMoved.after HBA.out hm7⟩
    · have hq1 : (r.1 != 0) = true := by simpa using hr
      have HRR : Hid (doubleF vs = (r.1, vs)) := by
        show doubleF vs = _
        rw [HC.out, if_pos hr]
      clear hmv hr
      go_wp2_with fail
      go_ret
      rw [HRR.out]
      exact ⟨rfl, MMoved.below HH.out (below_alloc hb2)⟩
end
end Go.Proofs.Qxb6500606a
