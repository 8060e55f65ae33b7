/-
  The model valsm: Extra: spread. (Seat 606 alone.)
-/
import Derived.Test.Qxb6500606aMExtra
import Derived.Test.Qxb6500606aMCons
namespace Go.Proofs.Qxb6500606a
open Go.ChangeShapes Go.WideShapes Go.ChangeAt Go.RowKit
attribute [local go_sem] str_size str_app str_app1 str_1app str_toList str_get
set_option linter.unusedVariables false

/-- The stack behind an append of a row to its first r values. -/
theorem append_end {w w2 : World} {m : Nat} {g : Option Nat} {vs ps : St} {a a' : Option Addr} {cap r c' : Nat} {css css2 : List (List Value)} {y : Value} (hm : w.heap[m]? = some (.cells #[.slice a vs.length cap] 63)) (ho : (Value.slice a vs.length cap).ownBlock = g) (hr : MRow w (ex g) (.slice a vs.length cap) css vs) (hrn : r ≤ vs.length) (hp : MRow w (ex g) y css2 ps)
    (hown : w2.ownsRow 0 79 4 (.slice a' (r + ps.length) c') (r + ps.length) (css.flatten.take (r * 4) ++ css2.flatten)) (hgrow : w.drew.grownBy w2 (Value.slice a r cap).ownBlock) (hat : (Value.slice a' (r + ps.length) c').ownBlock = (Value.slice a r cap).ownBlock ∨ (Value.slice a' (r + ps.length) c').ownBlock = some w.drew.heap.size) :
    MMoved w m g (vs.take r ++ ps) (w2.setCell ⟨m, 0, none⟩ (.slice a' (r + ps.length) c')) := by
  have hstk : MStk w m g vs := ⟨_, css, hm, ho, hr⟩
  have eo : (Value.slice a r cap).ownBlock = g := by rw [← ho]; cases a <;> rfl
  rw [eo] at hgrow hat
  have hml := lt_of_heap hm
  have hsz : w.drew.heap.size = w.heap.size := rfl
  rw [hsz] at hat
  have hgm : ∀ x, (Value.slice a' (r + ps.length) c').ownBlock = some x → x ≠ m := fun x hx => by
    rcases hat with h | h
    · exact hstk.ne (h.symm.trans hx)
    · rw [hx] at h; cases h; omega
  have ho1 : Only (mown m g) w w2 := by
    refine ⟨hgrow.os, hgrow.tape, hgrow.output, hgrow.size, fun b hb hn => ?_⟩
    exact hgrow.block b hb (fun e => hn (.inr e.symm))
  have ho2 : Only (mown m g) w (w2.setCell ⟨m, 0, none⟩ (.slice a' (r + ps.length) c')) := ho1.setCell (.inl (.inl rfl)) _
  have hk : ∀ b c, w.heap[b]? = some (.cells c 79) → ¬ ex g b → (w2.setCell ⟨m, 0, none⟩ (.slice a' (r + ps.length) c')).heap[b]? = some (.cells c 79) ∧ ¬ ex (Value.slice a' (r + ps.length) c').ownBlock b := fun b c e hne => by
    have hbl := lt_of_heap e
    refine ⟨(ho2.block b hbl ?_).trans e, ?_⟩
    · rintro (rfl | h)
      · rw [hm] at e; simp at e
      · exact hne h
    · intro h
      rcases hat with h1 | h1
      · exact hne (h1.symm.trans h)
      · rw [h1] at h; cases h; omega
  have hbm : w2.heap[m]? = some (.cells #[.slice a vs.length cap] 63) := by
    rw [hgrow.block m hml (fun e => hstk.ne e.symm rfl)]
    exact hm
  have hlen : (vs.take r ++ ps).length = r + ps.length := by simp; omega
  have hcl : (css.take r).length = r := by simp [hr.len]; omega
  refine ⟨(Value.slice a' (r + ps.length) c').ownBlock, ⟨.slice a' (r + ps.length) c', css.take r ++ css2, ?_, rfl, ⟨?_, ?_, ?_, ?_⟩⟩, ?_, ho2⟩
  · rw [heap_setCell_same w2 m 0 _ _ _ hbm]; rfl
  · rw [hlen, List.flatten_append, ← flatten_take4 _ _ hr.four]
    exact ownsRow_setCell_ne hown (a := ⟨m, 0, none⟩) hgm _
  · rw [hlen, List.length_append, hcl, hp.len]
  · intro c hc
    rcases List.mem_append.1 hc with h | h
    · exact hr.four c (List.mem_of_mem_take h)
    · exact hp.four c h
  · intro i e c he hc
    by_cases hi : i < r
    · rw [List.getElem?_append_left (by simp; omega), List.getElem?_take_of_lt hi] at he
      rw [List.getElem?_append_left (by omega), List.getElem?_take_of_lt hi] at hc
      exact (hr.rep i e c he hc).keep hk
    · rw [List.getElem?_append_right (by simp; omega)] at he
      rw [List.getElem?_append_right (by omega), hcl] at hc
      have : (vs.take r).length = r := by simp; omega
      rw [this] at he
      exact (hp.rep _ e c he hc).keep hk
  · intro b hb
    rcases hat with h | h
    · exact .inl (h.symm.trans hb)
    · rw [hb] at h; cases h; exact .inr (Nat.le_refl _)
section
variable {w : World} {m : Nat} {g : Option Nat} {vs : St}
set_option maxRecDepth 100000 in
set_option maxHeartbeats 4000000 in
theorem mx_spread (h : MStk w m g vs) (hok : Okay vs) (hwf : ∀ v ∈ vs, Wf v) : MXWord w m g 2 (spreadF vs) := by
  by_cases h0 : vs.length = 0
  · exact mx_spread_none h h0
  · obtain ⟨b, cap0, cs, c0, hR, hv, hbl, hgb⟩ := h.hasTop (by omega)
    have hlt := hok.top (by omega)
    have hw := hwf _ (List.mem_of_getElem? (top_at (by omega)))
    have hh := hide (hasI_calls _ hw)
    have q4 := canI_iter hw
    obtain ⟨q, hq⟩ : ∃ q : Nat, (vs.length : Int) - 1 = q := ⟨vs.length - 1, by omega⟩
    have hq2 : vs.length - 1 = q := by omega
    rw [hq2] at hR
    have hw1 : IntKind.i64.wrap ((vs.length : Int) - 1) = q := by rw [hq, IntKind.wrap_i64]; have := hok.1; omega
    have hw3 : IntKind.i64.wrap (q : Int) = q := by rw [IntKind.wrap_i64]; have := hok.1; omega
    have hql : (q : Int) < vs.length := by omega
    have hql2 : q < vs.length := by omega
    have hd : decide ((vs.length : Int) < 1) = false := decide_eq_false (by omega)
    have h5 := hok.1
    have HH := hide h
    have hR' := hide hR
    have hmlt := h.lt.1
    by_cases hc : canIter (top vs) = true
    · rw [hc] at q4
      obtain ⟨k2, css2, rfl, hrow2, hg2, hz2⟩ := hv.ofKids hc
      obtain ⟨a2, c2, rfl, _⟩ := ownsRow_slice4 hrow2.row
      have hps := (partsLe hw hc).2
      have hpl30 : (parts (top vs)).length ≤ 30 := by omega
      have HC : Hid (spreadF vs = if 5 < q + (parts (top vs)).length then (3, vs) else (0, vs.take q ++ parts (top vs))) := by
        show spreadF vs = _
        unfold spreadF; rw [if_neg h0, if_pos hc, hq2]
      have hW1 : Below w.heap.size w (w.alloc (.cells #[.int .i64 (kind (top vs)), .int .i64 0, .string (str []), .slice a2 (parts (top vs)).length c2] 79)) := below_alloc (Below.refl _ _)
      have hrN : (w.alloc (.cells #[.int .i64 (kind (top vs)), .int .i64 0, .string (str []), .slice a2 (parts (top vs)).length c2] 79)).heap[w.heap.size]? = some (.cells #[.int .i64 (kind (top vs)), .int .i64 0, .string (str []), .slice a2 (parts (top vs)).length c2] 79) := heap_alloc_new _ _
      have hst1 := h.below hW1
      have hrw1 := hrow2.below hW1
      have HZ2 := hide hz2
      clear h hok hwf h0 hR hv hw hlt hc hgb hrow2 hg2 hz2 hq2
      generalize kind (top vs) = kk at *
      by_cases hful : 5 < q + (parts (top vs)).length
      · rw [if_pos hful] at HC
        have hfd : decide ((q : Int) + (parts (top vs)).length > 5) = true := decide_eq_true (by omega)
        have HW1 := hide hW1
        clear hst1 hrw1 hW1 hrN
        generalize (parts (top vs)).length = pl at *
        unfold MXWord
        go_enter Try.func61, Try.ntmps61
        go_wp2_with (first | (refine wpList_load_mid rfl 79 _ rfl b (q * 4) rfl [.int .i64 kk, .int .i64 0, .string (str []), .slice a2 pl c2] _ hR'.out Try.underlying79 rfl (info79 _ rfl) ?_) | (go_at_call 83; refine (hh.out _ (by decide) _).mono ?_; rintro e w' ⟨rfl, hw⟩; subst w'))
        go_ret
        rw [HC.out]
        exact ⟨rfl, MMoved.below HH.out HW1.out⟩
      · rw [if_neg hful] at HC
        have hfd : decide ((q : Int) + (parts (top vs)).length > 5) = false := decide_eq_false (by omega)
        have HW1 := hide hW1
        have HROW := hide hrw1
        have HST := hide hst1
        have HRN := hide hrN
        have hnm : (w.alloc (.cells #[.int .i64 kk, .int .i64 0, .string (str []), .slice a2 (parts (top vs)).length c2] 79)).heap.size = w.heap.size + 1 := by simp
        clear hst1 hrw1 hW1 hrN
        generalize hpp : (parts (top vs)).length = pl at *
        have HPP := hide hpp
        clear hpp
        unfold MXWord
        go_enter Try.func61, Try.ntmps61
        go_upto_region 38 with (first | (refine wpList_load_mid rfl 79 _ rfl b (q * 4) rfl [.int .i64 kk, .int .i64 0, .string (str []), .slice a2 pl c2] _ hR'.out Try.underlying79 rfl (info79 _ rfl) ?_) | (go_at_call 83; refine (hh.out _ (by decide) _).mono ?_; rintro e w' ⟨rfl, hw⟩; subst w'))
        generalize hWW : w.alloc (.cells #[.int .i64 kk, .int .i64 0, .string (str []), .slice a2 pl c2] 79) = W1 at *
        obtain ⟨a, cap, css, hm1, d0, ho1, hr1, z1⟩ := HST.out.open
        have d3 := (cells4 HRN.out).2.2.2.1
        have HM1 := hide hm1
        have HO1 := hide ho1
        have HR1 := hide hr1
        have hcapr := ownsRow_cap4 hr1.row
        have hrc : q ≤ cap := by omega
        have HPRE : Hid (W1.drew.ownsRow 0 79 4 (.slice a q cap) q (css.flatten.take (q * 4))) := (ownsRow_prefix4 hr1.row q (by omega)).drew
        have HY : Hid (MRow W1.drew (ex g) (.slice a2 pl c2) css2 (parts (top vs))) := HROW.out.below (below_drew (Below.refl _ _))
        have eo : (Value.slice a q cap).ownBlock = g := by rw [← ho1]; cases a <;> rfl
        have NE1 : Hid (some m ≠ (Value.slice a q cap).ownBlock) := by
          show some m ≠ _
          rw [eo]; intro e; exact HST.out.ne e.symm rfl
        have SZ1 : Hid (m < W1.drew.heap.size) := by show m < W1.heap.size; omega
        clear hWW hm1 ho1 hr1 eo c0
        go_region_law ((refine step_append_kids (by rfl) _ _ (by rfl) 0 (.slice a q cap) q _ (by rfl) HPRE.out (Nat.zero_le _) (.slice a2 pl c2) (by rfl) HY.out HZ2.out (by rw [HPP.out]; omega) ?_; intro x1 y1 w5 ow5 gr5 at5 nz5; have c5 : w5.cell? ⟨m, 0, none⟩ = some (.slice a vs.length cap) := (gr5.cell_far ⟨m, 0, none⟩ SZ1.out NE1.out).trans d0; have z5 : w5.frozen? ⟨m, 0, none⟩ = false := (gr5.frozen_far ⟨m, 0, none⟩ SZ1.out NE1.out).trans z1))
        all_goals
          go_wp2_with fail
          go_ret
          rw [HC.out]
          exact ⟨rfl, MMoved.after HW1.out (append_end HM1.out HO1.out HR1.out (by omega) HROW.out ow5 gr5 at5)⟩
    · have hcf : canIter (top vs) = false := by simpa using hc
      rw [hcf] at q4
      have HR : Hid (spreadF vs = (5, vs)) := by
        show spreadF vs = _
        unfold spreadF; rw [if_neg h0, if_neg hc]
      obtain ⟨n, s, a, ml, mc, rfl⟩ := hv.cells
      clear h hok hwf h0 hR hv hw hlt hc
      generalize kind (top vs) = kk at *
      unfold MXWord
      go_enter Try.func61, Try.ntmps61
      go_wp2_with (first | (refine wpList_load_mid rfl 79 _ rfl b (q * 4) rfl [.int .i64 kk, .int .i64 n, .string (str s), .slice a ml mc] _ hR'.out Try.underlying79 rfl (info79 _ rfl) ?_) | (go_at_call 83; refine (hh.out _ (by decide) _).mono ?_; rintro e w' ⟨rfl, hw⟩; subst w'))
      go_ret
      rw [HR.out]
      exact ⟨rfl, MMoved.below HH.out (below_alloc (Below.refl _ _))⟩
end
end Go.Proofs.Qxb6500606a
