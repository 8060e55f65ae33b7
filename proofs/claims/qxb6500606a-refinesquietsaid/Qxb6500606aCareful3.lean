/-
  Cons, Drop, TopInt, Neg, Len.
-/
import Derived.Test.Qxb6500606aAsserts
namespace Go.Proofs.Qxb6500606a
open Go.ChangeShapes Go.WideShapes Go.ChangeAt Go.RowKit
attribute [local go_sem] str_size str_app str_app1 str_1app str_toList
set_option linter.unusedVariables false

theorem wr_eq (n : Int) : wrap64 n = wr n := by simp only [wrap64, wr]
theorem wr_i64 (n : Int) : I64 (wr n) := by unfold wr; constructor <;> omega
theorem wr_id {n : Int} (h : I64 n) : wr n = n := by obtain ⟨h1, h2⟩ := h; unfold wr; omega

/-- The stack cut down to its lowest k values. -/
theorem IsStack.cut {w : World} {s : Nat} {g : Option Nat} {busy : Bool} {vs : List V} {a : Option Addr} {cap : Nat} {xs : List Value} (h : IsStack w s g busy vs a cap xs) (k : Nat) (hk : k ≤ vs.length) :
    IsStack (w.setCell ⟨s, 0, none⟩ (.slice a k cap)) s g busy (vs.take k) a cap (xs.take k) ∧ Only (own s g) w (w.setCell ⟨s, 0, none⟩ (.slice a k cap)) := by
  have ho : Only (own s g) w (w.setCell ⟨s, 0, none⟩ (.slice a k cap)) := (Only.refl _ w).setCell (.inl (.inl rfl)) _
  have hl : (vs.take k).length = k := by simp; omega
  have hp := ownsRow_prefix h.row k hk
  refine ⟨⟨?_, ?_, ?_, (h.reps.keep (h.keepsV ho)).take k⟩, ho⟩
  · rw [hl, heap_setCell_same w s 0 _ _ _ h.head]; rfl
  · rw [hl]
    refine ⟨hp.1, orMap hp.2 id ?_⟩
    rintro ⟨g2, cap2, cur, h1, h2, h3, h4⟩
    refine ⟨g2, cap2, cur, h1, h2, (Below.heap_setCell w _ _ g2 ?_).trans h3, h4⟩
    refine h.ne ?_
    rw [← h.arr, ownBlock_len (m := k), h1]; rfl
  · rw [hl, ← h.arr]; exact ownBlock_len

section
variable {w : World} {s : Nat} {g : Option Nat} {vs : List V}

set_option maxHeartbeats 400000 in
theorem cons_calls (h : Stk w s g false vs) (hok : Okay vs) :
    Calls Try.prog 38 #[.pointer (some ⟨s, 0, none⟩)] w fun e w' => e = .returned (.int .i64 (consF vs).1) ∧ Moved w s g false (consF vs).2 w' := by
  have hS := h
  obtain ⟨a, cap, xs, h⟩ := h
  have c0 := h.c0
  have hn5 := hok.1
  by_cases h0 : vs.length < 2
  · have H : Hid (consF vs = (4, vs)) := by unfold consF; rw [if_pos h0]; exact rfl
    have hpk := hide (peek1_out h hn5 h0)
    have hta := as_list_nil
    clear h
    generalize vs.length = n at *
    go_enter Try.func38, Try.ntmps38
    go_wp2_with (go_at_call 73; refine hpk.out.mono ?_; rintro e w' ⟨rfl, rfl⟩)
    go_ret
    exact ⟨by rw [H.out]; rfl, by rw [H.out]; exact Moved.same hS⟩
  · obtain ⟨x, hx, hr⟩ := h.hasTop (by omega)
    obtain ⟨y, hy, hry⟩ := h.hasUnder (by omega)
    have hpk := hide (peek1 h hn5 y (by omega) hy)
    have hlt : decide ((vs.length : Int) < 2) = false := decide_eq_false (by omega)
    by_cases hk : kind (subtop vs) = 3
    · obtain ⟨p, rfl, hL, hta⟩ := as_list hry hk
      have ht := hok.top (by omega)
      have hb := hok.subtop (by omega)
      obtain ⟨T, x, rfl⟩ := hr.iface
      have hA : ∀ o, IsStack (w.alloc o) s g false vs a cap xs := fun o => h.below ((Below.refl _ _).alloc (Nat.le_refl _) _)
      have hp0 : Hid (∀ o, Calls Try.prog 73 #[.pointer (some ⟨s, 0, none⟩), .int .i64 0] (w.alloc o) fun e w' => e = .returned (.iface T x) ∧ w' = w.alloc o) := fun o => peek0 (hA o) hn5 _ (by omega) hx
      have hB : Below w.heap.size w (w.alloc (.cells #[.iface T x, .pointer p] 89)) := (Below.refl _ _).alloc (Nat.le_refl _) _
      have hrep : Rep (w.alloc (.cells #[.iface T x, .pointer p] 89)) (vcons (top vs) (subtop vs)) (.iface 84 (.pointer (some ⟨w.heap.size, 0, none⟩))) := rep_cons hL (heap_alloc_new w _) (hr.below hB) (hry.below hB)
      have hfit := fits_calls hrep (by
        rw [text_list _ rfl, inner_cons]
        rw [text_list _ hL] at hb
        have : (sepInner (subtop vs)).length ≤ (inner (subtop vs)).length + 1 := by cases (subtop vs) <;> simp [sepInner]
        simp at hb ⊢
        omega)
      by_cases hbig : 30 < (text (vcons (top vs) (subtop vs))).length
      · have H : Hid (consF vs = (7, vs)) := by unfold consF; rw [if_neg h0, if_pos hk, if_pos hbig]; exact rfl
        have hd : decide ((text (vcons (top vs) (subtop vs))).length ≤ 30) = false := decide_eq_false (by omega)
        rw [hd] at hfit
        have HF := hide hfit
        clear h hr hry hx hy hd hrep hA hfit ht hb hbig hk hL
        generalize vs.length = n at *
        go_enter Try.func38, Try.ntmps38
        go_wp2_with (first | (go_at_call 70; refine HF.out.mono ?_; rintro e w1 ⟨rfl, hb1⟩) | (go_at_call_of 73 (Value.int .i64 1); refine hpk.out.mono ?_; rintro e w' ⟨rfl, rfl⟩) | (go_at_call_of 73 (Value.int .i64 0); refine (hp0.out _).mono ?_; rintro e w' ⟨rfl, rfl⟩))
        go_ret
        exact ⟨by rw [H.out]; rfl, by rw [H.out]; exact Moved.below hS (hB.trans (hb1.mono hB.size))⟩
      · have H : Hid (consF vs = lay 2 (vcons (top vs) (subtop vs)) vs) := by unfold consF; rw [if_neg h0, if_pos hk, if_neg hbig]; exact rfl
        have hd : decide ((text (vcons (top vs) (subtop vs))).length ≤ 30) = true := decide_eq_true (by omega)
        rw [hd] at hfit
        have hsw : Hid (∀ w1, Below w.heap.size w w1 → Rep w1 (vcons (top vs) (subtop vs)) (.iface 84 (.pointer (some ⟨w.heap.size, 0, none⟩))) → Calls Try.prog 72 #[.pointer (some ⟨s, 0, none⟩), .int .i64 2, .iface 84 (.pointer (some ⟨w.heap.size, 0, none⟩))] w1 fun e w' => e = .returned (.tuple #[]) ∧ Moved w s g false (lay 2 (vcons (top vs) (subtop vs)) vs).2 w') :=
          fun w1 hb1 hr1 => (swap2 (h.below hb1) hn5 (by omega) hr1).mono (by rintro e w' ⟨rfl, hm⟩; exact ⟨rfl, .after hb1 hm⟩)
        have HF := hide hfit
        have HR := hide hrep
        clear h hr hry hx hy hd hrep hA hfit ht hb hbig hk hL
        generalize hvn : vs.length = n at *
        clear hvn
        go_enter Try.func38, Try.ntmps38
        go_wp2_with (first | (go_at_call 70; refine HF.out.mono ?_; rintro e w1 ⟨rfl, hb1⟩) | (go_at_call_of 73 (Value.int .i64 1); refine hpk.out.mono ?_; rintro e w' ⟨rfl, rfl⟩) | (go_at_call_of 73 (Value.int .i64 0); refine (hp0.out _).mono ?_; rintro e w' ⟨rfl, rfl⟩) | (go_at_call 72; refine (hsw.out _ (hB.trans (hb1.mono hB.size)) (HR.out.below hb1)).mono ?_; rintro e w2 ⟨rfl, hm⟩))
        go_ret
        exact ⟨by rw [H.out]; rfl, by rw [H.out]; exact hm⟩
    · have H : Hid (consF vs = (2, vs)) := by unfold consF; rw [if_neg h0, if_neg hk]; exact rfl
      have hta := as_list_no hry hk
      clear h hr hry hx hy hk
      generalize vs.length = n at *
      go_enter Try.func38, Try.ntmps38
      go_wp2_with (go_at_call 73; refine hpk.out.mono ?_; rintro e w' ⟨rfl, rfl⟩)
      go_ret
      exact ⟨by rw [H.out]; rfl, by rw [H.out]; exact Moved.same hS⟩

set_option maxHeartbeats 400000 in
theorem drop_calls (h : Stk w s g false vs) (hok : Okay vs) :
    Calls Try.prog 46 #[.pointer (some ⟨s, 0, none⟩)] w fun e w' => e = .returned (.int .i64 (dropF vs).1) ∧ Moved w s g false (dropF vs).2 w' := by
  have hS := h
  obtain ⟨a, cap, xs, h⟩ := h
  have c0 := h.c0
  have z0 := h.z 0
  have hn5 := hok.1
  by_cases h0 : vs.length = 0
  · have H : Hid (dropF vs = (4, vs)) := by unfold dropF; rw [if_pos h0]; exact rfl
    clear h
    rw [h0] at c0
    go_enter Try.func46, Try.ntmps46
    go_wp2
    go_ret
    exact ⟨by rw [H.out]; rfl, by rw [H.out]; exact Moved.same hS⟩
  · have H : Hid (dropF vs = (0, vs.take (vs.length - 1))) := by unfold dropF; rw [if_neg h0]; exact rfl
    have hcap := ownsRow_cap h.row
    have HH := hide h
    clear h
    generalize hvn : vs.length = n at *
    have HN := hide hvn
    clear hvn
    go_enter Try.func46, Try.ntmps46
    go_wp2
    go_ret
    refine ⟨by rw [H.out]; rfl, ?_⟩
    rw [H.out]
    obtain ⟨h1, h2⟩ := HH.out.cut (vs.length - 1) (by omega)
    have e : vs.length - 1 = n - 1 := by rw [HN.out]
    rw [e] at h1 h2
    exact ⟨g, ⟨a, cap, _, h1⟩, fun b hb => .inl hb, h2⟩

set_option maxHeartbeats 400000 in
theorem topInt_calls (h : Stk w s g false vs) (hok : Okay vs) :
    Calls Try.prog 47 #[.pointer (some ⟨s, 0, none⟩)] w fun e w' => e = .returned (.tuple #[.int .i64 (topIntF vs).1, .int .i64 (topIntF vs).2]) ∧ w' = w := by
  obtain ⟨a, cap, xs, h⟩ := h
  have c0 := h.c0
  have hn5 := hok.1
  by_cases h0 : vs.length = 0
  · have H : Hid (topIntF vs = (0, 4)) := by unfold topIntF; rw [if_pos h0]; exact rfl
    have hpk := hide (peek0_out h hn5 h0)
    have hta := as_int_nil
    clear h
    rw [h0] at c0
    go_enter Try.func47, Try.ntmps47
    go_wp2_with (go_at_call 73; refine hpk.out.mono ?_; rintro e w' ⟨rfl, rfl⟩)
    go_ret2
    exact ⟨by rw [H.out]; rfl, rfl⟩
  · obtain ⟨x, hx, hr⟩ := h.hasTop (by omega)
    have hpk := hide (peek0 h hn5 x (by omega) hx)
    by_cases hk : kind (top vs) = 1
    · have H : Hid (topIntF vs = (num (top vs), 0)) := by unfold topIntF; rw [if_neg h0, if_pos hk]; exact rfl
      have hta := (as_int hr hk).2.2.2
      clear h hr hx hk
      go_enter Try.func47, Try.ntmps47
      go_wp2_with (go_at_call 73; refine hpk.out.mono ?_; rintro e w' ⟨rfl, rfl⟩)
      go_ret2
      exact ⟨by rw [H.out]; rfl, rfl⟩
    · have H : Hid (topIntF vs = (0, 2)) := by unfold topIntF; rw [if_neg h0, if_neg hk]; exact rfl
      have hta := as_int_no hr hk
      have hlt : decide ((vs.length : Int) < 1) = false := decide_eq_false (by omega)
      clear h hr hx hk
      generalize vs.length = n at *
      go_enter Try.func47, Try.ntmps47
      go_wp2_with (go_at_call 73; refine hpk.out.mono ?_; rintro e w' ⟨rfl, rfl⟩)
      go_ret2
      exact ⟨by rw [H.out]; rfl, rfl⟩
end
end Go.Proofs.Qxb6500606a
