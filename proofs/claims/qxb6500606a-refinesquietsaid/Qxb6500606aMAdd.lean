/-
  The model valsm: Add. (Seat 606 alone.)
-/
import Derived.Test.Qxb6500606aMWords2
namespace Go.Proofs.Qxb6500606a
open Go.ChangeShapes Go.WideShapes Go.ChangeAt Go.RowKit
attribute [local go_sem] str_size str_app str_app1 str_1app str_toList str_get
set_option linter.unusedVariables false

theorem MV.kind_pos {w : World} {g : Nat → Prop} {v : V} {cs : List Value} (h : MV w g v cs) : kind v ≠ 0 := by
  induction h using MV.ind with
  | int n hn => show (1 : Nat) ≠ 0; decide
  | str s => show (2 : Nat) ≠ 0; decide
  | kids v k css hc _ _ _ _ _ _ _ => intro e; simp [canIter, e] at hc
/-- A Val of tag 0 is no row of kids: it may be turned. -/
theorem MV.keepZ {w w' : World} {g : Nat → Prop} {N : Nat} {x1 x2 x3 : Value} (hz : w.heap[N]? = some (.cells #[.int .i64 0, x1, x2, x3] 79)) (hk : ∀ b c, b ≠ N → w.heap[b]? = some (.cells c 79) → w'.heap[b]? = some (.cells c 79)) {v : V} {cs : List Value} (h : MV w g v cs) : MV w' g v cs := by
  induction h using MV.ind with
  | int n hn => exact .int n hn
  | str s => exact .str s
  | kids v k css hc hrow hg hlen h4 hzz hks ih =>
    refine .kids v k css hc ⟨hrow.1, ?_⟩ hg hlen h4 hzz ih
    rcases hrow.2 with h | ⟨b, cap, cur, h1, h2, h3, h5, h6, h7, h8⟩
    · exact .inl h
    · refine .inr ⟨b, cap, cur, h1, h2, hk b cur ?_ h3, h5, h6, h7, h8⟩
      rintro rfl
      rw [hz] at h3
      cases h3
      have hne : parts v ≠ [] := fun e => by rw [hzz e] at h1; cases h1
      obtain ⟨e0, he0⟩ : ∃ e0, (parts v)[0]? = some e0 := ⟨_, List.getElem?_eq_getElem (List.length_pos_iff.2 hne)⟩
      obtain ⟨c0, hc0⟩ : ∃ c0, css[0]? = some c0 := ⟨_, List.getElem?_eq_getElem (by rw [hlen]; exact List.length_pos_iff.2 hne)⟩
      have hmv := hks 0 e0 c0 he0 hc0
      obtain ⟨n', s', a', m', cap', rfl⟩ := hmv.cells
      have hf := flat_at4 css 0 _ 0 (.int .i64 (kind e0)) h4 hc0 rfl
      rw [← h8] at hf
      have hp : 0 < (parts v).length := List.length_pos_iff.2 hne
      rw [List.getElem?_take_of_lt (by omega)] at hf
      have : (0 : Int) = (kind e0 : Int) := by simpa using hf
      exact hmv.kind_pos (by omega)
/-- A variable of type Val that was made, untouched, ahead of a call. -/
theorem boxd {w w1 : World} {x0 x1 x2 x3 : Value} (hb : Below ((w.alloc (.cells #[x0, x1, x2, x3] 79)).drew).heap.size ((w.alloc (.cells #[x0, x1, x2, x3] 79)).drew) w1) : (w1.cell? ⟨w.heap.size, 0, none⟩ = some x0 ∧ w1.cell? ⟨w.heap.size, 1, none⟩ = some x1 ∧ w1.cell? ⟨w.heap.size, 2, none⟩ = some x2 ∧ w1.cell? ⟨w.heap.size, 3, none⟩ = some x3) ∧ (∀ j, w1.frozen? ⟨w.heap.size, j, none⟩ = false) ∧ w1.heap[w.heap.size]? = some (.cells #[x0, x1, x2, x3] 79) ∧ ∀ y0 y1 y2 y3, ((((w1.setCell ⟨w.heap.size, 0, none⟩ y0).setCell ⟨w.heap.size, 1, none⟩ y1).setCell ⟨w.heap.size, 2, none⟩ y2).setCell ⟨w.heap.size, 3, none⟩ y3).heap[w.heap.size]? = some (.cells #[y0, y1, y2, y3] 79) := by
  have hh : w1.heap[w.heap.size]? = some (.cells #[x0, x1, x2, x3] 79) := (hb.block _ (by show w.heap.size < (w.alloc _).heap.size; simp)).trans (heap_alloc_new w _)
  refine ⟨⟨by simp [World.cell?, hh], by simp [World.cell?, hh], by simp [World.cell?, hh], by simp [World.cell?, hh]⟩, fun j => frozen_of_row w1 _ j _ _ hh, hh, fun y0 y1 y2 y3 => ?_⟩
  have h1 := heap_setCell_same w1 w.heap.size 0 _ _ y0 hh
  have h2 := heap_setCell_same _ w.heap.size 1 _ _ y1 h1
  have h3 := heap_setCell_same _ w.heap.size 2 _ _ y2 h2
  have h4 := heap_setCell_same _ w.heap.size 3 _ _ y3 h3
  rw [h4]; rfl
section
variable {w : World} {m : Nat} {g : Option Nat} {vs : St}
set_option maxRecDepth 100000 in
set_option maxHeartbeats 4000000 in
theorem mAdd (h : MStk w m g vs) (hok : Okay vs) (hwf : ∀ v ∈ vs, Wf v) : MWord 53 w m g (addF vs) := by
  by_cases h0 : vs.length < 2
  · exact mAdd_under h h0
  · obtain ⟨b, cap, cs, cs2, c0, hR, hv, hR2, hv2, hbl, hgb⟩ := h.hasTwo (by omega)
    have hwt := hwf _ (List.mem_of_getElem? (top_at (by omega)))
    have hws := hwf _ (List.mem_of_getElem? (sub_at (by omega)))
    have hlt := hok.top (by omega)
    have hls := hok.subtop (by omega)
    have hplus : ∀ W, Below w.heap.size w W → _ := fun W hW => mplus_calls (hv2.carry hW) (hv.carry hW) hws hwt (fun x hx => Nat.lt_of_lt_of_le (h.lt.2 x hx) hW.size) hls hlt
    obtain ⟨n1, s1, a1, l1, p1, rfl⟩ := hv.cells
    obtain ⟨n2, s2, a2, l2, p2, rfl⟩ := hv2.cells
    have HR : Hid (addF vs = if (plusF (subtop vs) (top vs)).1 ≠ 0 then ((plusF (subtop vs) (top vs)).1, vs) else lay 2 (plusF (subtop vs) (top vs)).2 vs) := by
      show addF vs = _
      unfold addF; rw [if_neg h0]
    have HPT : Hid ((plusF (subtop vs) (top vs)).1 = 0 → Wf (plusF (subtop vs) (top vs)).2 ∧ (text (plusF (subtop vs) (top vs)).2).length ≤ 30) := fun e => ⟨wf_plus hws hwt e, plusF_text e⟩
    have hpl := hide hplus
    obtain ⟨t0, t1, t2, t3⟩ := cells_of_range hR
    obtain ⟨u0, u1, u2, u3⟩ := cells_of_range hR2
    obtain ⟨q, hq⟩ : ∃ q : Nat, (vs.length : Int) - 1 = q := ⟨vs.length - 1, by omega⟩
    obtain ⟨p, hp⟩ : ∃ p : Nat, (vs.length : Int) - 2 = p := ⟨vs.length - 2, by omega⟩
    have hq2 : vs.length - 1 = q := by omega
    have hp2 : vs.length - 2 = p := by omega
    rw [hq2] at t0 t1 t2 t3
    rw [hp2] at u0 u1 u2 u3
    have hw1 : IntKind.i64.wrap ((vs.length : Int) - 1) = q := by rw [hq, IntKind.wrap_i64]; have := hok.1; omega
    have hw2 : IntKind.i64.wrap ((vs.length : Int) - 2) = p := by rw [hp, IntKind.wrap_i64]; have := hok.1; omega
    have hw3 : IntKind.i64.wrap (q : Int) = q := by rw [IntKind.wrap_i64]; have := hok.1; omega
    have hw4 : IntKind.i64.wrap (p : Int) = p := by rw [IntKind.wrap_i64]; have := hok.1; omega
    have hql : (q : Int) < vs.length := by omega
    have hql2 : q < vs.length := by omega
    have hpl2 : p < vs.length := by omega
    have hpl3 : (p : Int) < vs.length := by omega
    have hd : decide ((vs.length : Int) < 2) = false := decide_eq_false (by omega)
    have hn2 : 2 ≤ vs.length := by omega
    have h5 := hok.1
    have HH := hide h
    clear h hok hwf h0 hR hR2 hv hv2 hwt hws hlt hls hq2 hp2 hplus hgb
    generalize kind (top vs) = kt at *
    generalize kind (subtop vs) = ks at *
    generalize plusF (subtop vs) (top vs) = r at *
    unfold MWord
    unfold MPlusOut at hpl
    have hml := HH.out.lt.1
    have m0 := World.new_ne w _ c0
    have m1 := World.new_ne w _ t0
    have m2 := World.new_ne w _ t1
    have m3 := World.new_ne w _ t2
    have m4 := World.new_ne w _ t3
    have m5 := World.new_ne w _ u0
    have m6 := World.new_ne w _ u1
    have m7 := World.new_ne w _ u2
    have m8 := World.new_ne w _ u3
    have hq0 : (0 : Int) ≤ (q : Int) := Int.natCast_nonneg _
    have hp0 : (0 : Int) ≤ (p : Int) := Int.natCast_nonneg _
    have HS9 : Hid (∀ w', Below w.heap.size w w' → w'.cell? ⟨m, 0, none⟩ = some (.slice (some ⟨b, 0, none⟩) vs.length cap) ∧ w'.cell? ⟨b, q * 4, none⟩ = some (.int .i64 kt) ∧ w'.cell? ⟨b, q * 4 + 1, none⟩ = some (.int .i64 n1) ∧ w'.cell? ⟨b, q * 4 + 2, none⟩ = some (.string (str s1)) ∧ w'.cell? ⟨b, q * 4 + 3, none⟩ = some (.slice a1 l1 p1) ∧ w'.cell? ⟨b, p * 4, none⟩ = some (.int .i64 ks) ∧ w'.cell? ⟨b, p * 4 + 1, none⟩ = some (.int .i64 n2) ∧ w'.cell? ⟨b, p * 4 + 2, none⟩ = some (.string (str s2)) ∧ w'.cell? ⟨b, p * 4 + 3, none⟩ = some (.slice a2 l2 p2)) := fun w' hb' => ⟨(hb'.cell (p := ⟨m, 0, none⟩) hml).trans c0, (hb'.cell (p := ⟨b, q * 4, none⟩) hbl).trans t0, (hb'.cell (p := ⟨b, q * 4 + 1, none⟩) hbl).trans t1, (hb'.cell (p := ⟨b, q * 4 + 2, none⟩) hbl).trans t2, (hb'.cell (p := ⟨b, q * 4 + 3, none⟩) hbl).trans t3, (hb'.cell (p := ⟨b, p * 4, none⟩) hbl).trans u0, (hb'.cell (p := ⟨b, p * 4 + 1, none⟩) hbl).trans u1, (hb'.cell (p := ⟨b, p * 4 + 2, none⟩) hbl).trans u2, (hb'.cell (p := ⟨b, p * 4 + 3, none⟩) hbl).trans u3⟩
    have HSZ : Hid (∀ o : Obj, w.heap.size ≤ ((w.alloc o).drew).heap.size ∧ w.heap.size ≤ w.drew.heap.size) := fun o => ⟨by show w.heap.size ≤ (w.alloc o).heap.size; simp, Nat.le_refl _⟩
    go_enter Try.func53, Try.ntmps53
    go_upto_region 4 with fail
    go_cut [4, 5] from 13 to 32 (fun s4 s5 wx => ∃ (B : Nat) (t n : Int) (s : List UInt8) (a : Option Addr) (ml mc : Nat), s4 = .pointer (some ⟨B, 0, none⟩) ∧ s5 = .int .i64 r.1 ∧ Below w.heap.size w wx ∧ wx.heap[B]? = some (.cells #[.int .i64 t, .int .i64 n, .string (str s), .slice a ml mc] 79) ∧ (r.1 = 0 → MV wx (ex g) r.2 (mC t n s (.slice a ml mc))))
    case first =>
      go_region_held3 (fun w' => w'.cell? ⟨m, 0, none⟩ = some (.slice (some ⟨b, 0, none⟩) vs.length cap) ∧ w'.cell? ⟨b, q * 4, none⟩ = some (.int .i64 kt) ∧ w'.cell? ⟨b, q * 4 + 1, none⟩ = some (.int .i64 n1) ∧ w'.cell? ⟨b, q * 4 + 2, none⟩ = some (.string (str s1)) ∧ w'.cell? ⟨b, q * 4 + 3, none⟩ = some (.slice a1 l1 p1) ∧ w'.cell? ⟨b, p * 4, none⟩ = some (.int .i64 ks) ∧ w'.cell? ⟨b, p * 4 + 1, none⟩ = some (.int .i64 n2) ∧ w'.cell? ⟨b, p * 4 + 2, none⟩ = some (.string (str s2)) ∧ w'.cell? ⟨b, p * 4 + 3, none⟩ = some (.slice a2 l2 p2))
        (go_keep)
        ((go_at_call 82; refine (hpl.out _ (by first | exact below_drew (below_alloc (Below.refl _ _)) | exact below_drew (Below.refl _ _))).mono ?_; rintro e w1 ⟨t, n, s, a, ml, mc, rfl, hb1, hmv⟩; have hge : w.heap.size ≤ w1.heap.size := Nat.le_trans (by first | exact (HSZ.out (.cells #[] 79)).2 | exact (HSZ.out _).1) hb1.size; have nm : w1.heap.size ≠ m := (by omega); have nb : w1.heap.size ≠ b := (by omega); have nm' : w.heap.size ≠ m := (by omega); have nb' : w.heap.size ≠ b := (by omega); obtain ⟨k0, k1, k2, k3, k4, k5, k6, k7, k8⟩ := HS9.out w1 (below_next (by first | exact below_drew (below_alloc (Below.refl _ _)) | exact below_drew (Below.refl _ _)) hb1); try have zb := boxd hb1))
      all_goals go_wp2_with fail
      all_goals go_meet
      all_goals first
        | exact ⟨_, t, n, s, a, ml, mc, rfl, rfl, below_alloc (below_next (below_drew (Below.refl _ _)) hb1), heap_alloc_new _ _, fun e => (hmv e).carry (below_alloc (Below.refl _ _))⟩
        | (refine ⟨_, t, n, s, a, ml, mc, rfl, rfl, ?_, zb.2.2.2 _ _ _ _, fun e => (hmv e).keepZ zb.2.2.1 (fun x c hne hx => ?_)⟩
           · exact ((((below_next (below_drew (below_alloc (Below.refl _ _))) hb1).setCell (p := ⟨w.heap.size, 0, none⟩) (Nat.le_refl _) _).setCell (p := ⟨w.heap.size, 1, none⟩) (Nat.le_refl _) _).setCell (p := ⟨w.heap.size, 2, none⟩) (Nat.le_refl _) _).setCell (p := ⟨w.heap.size, 3, none⟩) (Nat.le_refl _) _
           · rw [Below.heap_setCell _ _ _ x hne, Below.heap_setCell _ _ _ x hne, Below.heap_setCell _ _ _ x hne, Below.heap_setCell _ _ _ x hne]; exact hx)
    case rest =>
    obtain ⟨B, t, n, s, a, ml, mc, rfl, rfl, hb2, hB, hmv⟩ := hcut
    by_cases hr : r.1 = 0
    · have hq1 : (r.1 != 0) = false := by simp [hr]
      have hput := hide (put_calls (HH.out.below hb2) h5 2 hn2 (hmv hr) (HPT.out hr).1 (by have := (HPT.out hr).2; omega))
      have HRR : Hid (addF vs = putF 2 r.2 vs) := by
        show addF vs = _
        rw [HR.out, if_neg (by simp [hr]), putF_room (HPT.out hr).2 h5 (by omega) hn2]
      have HB := hide hB
      clear hB hmv hr t0 t1 t2 t3 u0 u1 u2 u3
      go_wp2_with (first | (refine wpList_load_row rfl 79 _ rfl B rfl 79 _ (0, 0) _ HB.out Try.underlying79 rfl info79a ?_) | (go_at_call 81; refine hput.out.mono ?_; rintro e w3 ⟨rfl, hm3⟩))
      go_ret
      rw [HRR.out]
      exact ⟨rfl, MMoved.after hb2 hm3⟩
    · have hq1 : (r.1 != 0) = true := by simpa using hr
      have HRR : Hid (addF vs = (r.1, vs)) := by
        show addF vs = _
        rw [HR.out, if_pos hr]
      clear hB hmv hr t0 t1 t2 t3 u0 u1 u2 u3
      go_wp2_with fail
      go_ret
      rw [HRR.out]
      exact ⟨rfl, MMoved.below HH.out hb2⟩
end
end Go.Proofs.Qxb6500606a
