/-
  THE CAREFUL WORDS, MORE: Drop, TopInt, Pair, Cons.
-/
import Derived.Test.Qxb6500606aCareful
import Derived.Deep.RegionWith
namespace Go.Proofs.Qxb6500606a
open Go.ChangeShapes Go.WideShapes Go.ChangeAt Go.RowKit
attribute [local go_sem] str_size str_app str_app1 str_1app str_toList
set_option linter.unusedVariables false
section
variable {w : World} {s : Nat} {g : Option Nat} {vs : List V}

set_option maxHeartbeats 400000 in
theorem pair_calls (h : Stk w s g false vs) (hok : Okay vs) :
    Calls Try.prog 39 #[.pointer (some ⟨s, 0, none⟩)] w fun e w' => e = .returned (.int .i64 (pairF vs).1) ∧ Moved w s g false (pairF vs).2 w' := by
  have hS := h
  obtain ⟨a, cap, xs, h⟩ := h
  have c0 := h.c0
  have hn5 := hok.1
  by_cases h0 : vs.length < 2
  · have H : Hid (pairF vs = (4, vs)) := by unfold pairF; rw [if_pos h0]; exact rfl
    clear h
    generalize vs.length = n at *
    go_enter Try.func39, Try.ntmps39
    go_wp2_with fail
    go_ret
    exact ⟨by rw [H.out]; rfl, by rw [H.out]; exact Moved.same hS⟩
  · obtain ⟨x, hx, hr⟩ := h.hasTop (by omega)
    obtain ⟨y, hy, hry⟩ := h.hasUnder (by omega)
    have ht := hok.top (by omega)
    have hb := hok.subtop (by omega)
    obtain ⟨T, x, rfl⟩ := hr.iface
    obtain ⟨U, y, rfl⟩ := hry.iface
    have hA : ∀ o, IsStack (w.alloc o) s g false vs a cap xs := fun o => h.below ((Below.refl _ _).alloc (Nat.le_refl _) _)
    have hp1 : Hid (∀ o, Calls Try.prog 73 #[.pointer (some ⟨s, 0, none⟩), .int .i64 1] (w.alloc o) fun e w' => e = .returned (.iface U y) ∧ w' = w.alloc o) := fun o => peek1 (hA o) hn5 _ (by omega) hy
    have hp0 : Hid (∀ o, Calls Try.prog 73 #[.pointer (some ⟨s, 0, none⟩), .int .i64 0] (w.alloc o) fun e w' => e = .returned (.iface T x) ∧ w' = w.alloc o) := fun o => peek0 (hA o) hn5 _ (by omega) hx
    have hB : Below w.heap.size w (w.alloc (.cells #[.iface U y, .iface T x] 92)) := (Below.refl _ _).alloc (Nat.le_refl _) _
    have hrep : Rep (w.alloc (.cells #[.iface U y, .iface T x] 92)) (vpair (subtop vs) (top vs)) (.iface 90 (.pointer (some ⟨w.heap.size, 0, none⟩))) := rep_pair (heap_alloc_new w _) (hry.below hB) (hr.below hB)
    have hfit := fits_calls hrep (by rw [text_pair]; simp; omega)
    have hlt : decide ((vs.length : Int) < 2) = false := decide_eq_false (by omega)
    by_cases hbig : 30 < (text (vpair (subtop vs) (top vs))).length
    · have H : Hid (pairF vs = (7, vs)) := by unfold pairF; rw [if_neg h0, if_pos hbig]; exact rfl
      have hd : decide ((text (vpair (subtop vs) (top vs))).length ≤ 30) = false := decide_eq_false (by omega)
      rw [hd] at hfit
      have HF := hide hfit
      clear h hr hry hx hy hd hrep hA hfit ht hb hbig
      generalize vs.length = n at *
      go_enter Try.func39, Try.ntmps39
      go_wp2_with (first | (go_at_call 70; refine HF.out.mono ?_; rintro e w1 ⟨rfl, hb1⟩) | (go_at_call_of 73 (Value.int .i64 1); refine (hp1.out _).mono ?_; rintro e w' ⟨rfl, rfl⟩) | (go_at_call_of 73 (Value.int .i64 0); refine (hp0.out _).mono ?_; rintro e w' ⟨rfl, rfl⟩))
      go_ret
      exact ⟨by rw [H.out]; rfl, by rw [H.out]; exact Moved.below hS (hB.trans (hb1.mono hB.size))⟩
    · have H : Hid (pairF vs = lay 2 (vpair (subtop vs) (top vs)) vs) := by unfold pairF; rw [if_neg h0, if_neg hbig]; exact rfl
      have hd : decide ((text (vpair (subtop vs) (top vs))).length ≤ 30) = true := decide_eq_true (by omega)
      rw [hd] at hfit
      have hsw : Hid (∀ w1, Below w.heap.size w w1 → Rep w1 (vpair (subtop vs) (top vs)) (.iface 90 (.pointer (some ⟨w.heap.size, 0, none⟩))) → Calls Try.prog 72 #[.pointer (some ⟨s, 0, none⟩), .int .i64 2, .iface 90 (.pointer (some ⟨w.heap.size, 0, none⟩))] w1 fun e w' => e = .returned (.tuple #[]) ∧ Moved w s g false (lay 2 (vpair (subtop vs) (top vs)) vs).2 w') :=
        fun w1 hb1 hr1 => (swap2 (h.below hb1) hn5 (by omega) hr1).mono (by rintro e w' ⟨rfl, hm⟩; exact ⟨rfl, .after hb1 hm⟩)
      have HF := hide hfit
      have HR := hide hrep
      clear h hr hry hx hy hd hrep hA hfit ht hb hbig
      generalize hvn : vs.length = n at *
      clear hvn
      go_enter Try.func39, Try.ntmps39
      go_wp2_with (first | (go_at_call 70; refine HF.out.mono ?_; rintro e w1 ⟨rfl, hb1⟩) | (go_at_call_of 73 (Value.int .i64 1); refine (hp1.out _).mono ?_; rintro e w' ⟨rfl, rfl⟩) | (go_at_call_of 73 (Value.int .i64 0); refine (hp0.out _).mono ?_; rintro e w' ⟨rfl, rfl⟩) | (go_at_call 72; refine (hsw.out _ (hB.trans (hb1.mono hB.size)) (HR.out.below hb1)).mono ?_; rintro e w2 ⟨rfl, hm⟩))
      go_ret
      exact ⟨by rw [H.out]; rfl, by rw [H.out]; exact hm⟩
end
end Go.Proofs.Qxb6500606a
