/-
  THE CAREFUL WORDS (stack.go), those without a walk over an iterator.
-/
import Derived.Test.Qxb6500606aSmall
import Derived.Test.Qxb6500606aWords
namespace Go.Proofs.Qxb6500606a
open Go.ChangeShapes Go.WideShapes Go.ChangeAt Go.RowKit
attribute [local go_sem] str_size str_app str_app1 str_1app str_toList
set_option linter.unusedVariables false

def Stk (w : World) (s : Nat) (g : Option Nat) (busy : Bool) (vs : St) : Prop := ∃ a cap xs, IsStack w s g busy vs a cap xs
def Moved (w : World) (s : Nat) (g : Option Nat) (busy : Bool) (vs' : St) (w' : World) : Prop := ∃ g', Stk w' s g' busy vs' ∧ Grew w g g' ∧ Only (own s g) w w'
theorem Moved.same {w : World} {s : Nat} {g : Option Nat} {busy : Bool} {vs : St} (h : Stk w s g busy vs) : Moved w s g busy vs w := ⟨g, h, fun b hb => .inl hb, Only.refl _ _⟩
theorem Stk.below {w w' : World} {s : Nat} {g : Option Nat} {busy : Bool} {vs : St} (h : Stk w s g busy vs) (hb : Below w.heap.size w w') : Stk w' s g busy vs := by
  obtain ⟨a, cap, xs, h⟩ := h
  exact ⟨a, cap, xs, h.below hb⟩
theorem Moved.after {w w1 w' : World} {s : Nat} {g : Option Nat} {busy : Bool} {vs : St} (hb : Below w.heap.size w w1) (h : Moved w1 s g busy vs w') : Moved w s g busy vs w' := by
  obtain ⟨g', h1, h2, h3⟩ := h
  refine ⟨g', h1, fun b hb' => orMap (h2 b hb') id fun h => Nat.le_trans hb.size h, ?_⟩
  exact (Only.of_below hb).trans h3 fun i hi => .inl hi
theorem Moved.below {w w' : World} {s : Nat} {g : Option Nat} {busy : Bool} {vs : St} (h : Stk w s g busy vs) (hb : Below w.heap.size w w') : Moved w s g busy vs w' := .after hb (.same (h.below hb))
theorem Moved.then {w w1 w' : World} {s : Nat} {g g1 : Option Nat} {busy : Bool} {vs : St} (hg : Grew w g g1) (ho : Only (own s g) w w1) (h : Moved w1 s g1 busy vs w') : Moved w s g busy vs w' := by
  obtain ⟨g', h1, h2, h3⟩ := h
  refine ⟨g', h1, ?_, ho.trans h3 ?_⟩
  · intro b hb
    rcases h2 b hb with h | h
    · exact hg b h
    · exact .inr (Nat.le_trans ho.size h)
  · rintro i (rfl | hi)
    · exact .inl (.inl rfl)
    · exact orMap (hg i hi) .inr id

section
variable {w : World} {s : Nat} {g : Option Nat} {busy : Bool} {vs : List V} {a : Option Addr} {cap : Nat} {xs : List Value}
theorem swap0 (h : IsStack w s g busy vs a cap xs) (hn : vs.length ≤ 5) {v : V} {x : Value} (hv : Rep w v x) :
    Calls Try.prog 72 #[.pointer (some ⟨s, 0, none⟩), .int .i64 0, x] w fun e w' => e = .returned (.tuple #[]) ∧ Moved w s g busy (lay 0 v vs).2 w' :=
  (swap_calls h hn 0 (by omega) hv).mono (by rintro e w' ⟨rfl, g', a', cap', xs', h1, h2, h3⟩; exact ⟨rfl, g', ⟨a', cap', xs', h1⟩, h2, h3⟩)
theorem swap1 (h : IsStack w s g busy vs a cap xs) (hn : vs.length ≤ 5) (hd : 1 ≤ vs.length) {v : V} {x : Value} (hv : Rep w v x) :
    Calls Try.prog 72 #[.pointer (some ⟨s, 0, none⟩), .int .i64 1, x] w fun e w' => e = .returned (.tuple #[]) ∧ Moved w s g busy (lay 1 v vs).2 w' :=
  (swap_calls h hn 1 hd hv).mono (by rintro e w' ⟨rfl, g', a', cap', xs', h1, h2, h3⟩; exact ⟨rfl, g', ⟨a', cap', xs', h1⟩, h2, h3⟩)
theorem swap2 (h : IsStack w s g busy vs a cap xs) (hn : vs.length ≤ 5) (hd : 2 ≤ vs.length) {v : V} {x : Value} (hv : Rep w v x) :
    Calls Try.prog 72 #[.pointer (some ⟨s, 0, none⟩), .int .i64 2, x] w fun e w' => e = .returned (.tuple #[]) ∧ Moved w s g busy (lay 2 v vs).2 w' :=
  (swap_calls h hn 2 hd hv).mono (by rintro e w' ⟨rfl, g', a', cap', xs', h1, h2, h3⟩; exact ⟨rfl, g', ⟨a', cap', xs', h1⟩, h2, h3⟩)

/-- The top value, and the one below it. -/
theorem IsStack.hasTop (h : IsStack w s g busy vs a cap xs) (hn : 0 < vs.length) : ∃ x, xs[vs.length - 1]? = some x ∧ Rep w (top vs) x := by
  obtain ⟨x, h1, h2⟩ := h.at (vs.length - 1) (by omega)
  refine ⟨x, h1, ?_⟩
  unfold Go.Proofs.Qxb6500606a.top
  rw [List.getD_eq_getElem?_getD, List.getElem?_eq_getElem (by omega)]
  exact h2
theorem IsStack.hasUnder (h : IsStack w s g busy vs a cap xs) (hn : 1 < vs.length) : ∃ x, xs[vs.length - 1 - 1]? = some x ∧ Rep w (subtop vs) x := by
  obtain ⟨x, h1, h2⟩ := h.at (vs.length - 1 - 1) (by omega)
  refine ⟨x, h1, ?_⟩
  unfold Go.Proofs.Qxb6500606a.subtop
  rw [List.getD_eq_getElem?_getD, List.getElem?_eq_getElem (by omega)]
  exact h2
end

section
variable {w : World} {s : Nat} {g : Option Nat} {vs : List V}

theorem push_ok {v : V} {x : Value} (k n : Int) (ls : List UInt8) (h : Stk w s g false vs) (hok : Okay vs) (hl : ls.length ≤ 6) (hr : pushF k n ls vs = if 5 ≤ vs.length then (3, vs) else lay 0 v vs) (hv : Rep w v x)
    (hk : (k = 1 ∧ x = .iface 82 (.int .i64 n)) ∨ (k = 2 ∧ x = .iface 83 (.string (str ls))) ∨ (k = 3 ∧ x = .iface 84 (.pointer none))) :
    Calls Try.prog 37 #[.pointer (some ⟨s, 0, none⟩), .int .i64 k, .int .i64 n, .string (str ls)] w fun e w' => e = .returned (.int .i64 (pushF k n ls vs).1) ∧ Moved w s g false (pushF k n ls vs).2 w' := by
  have hS := h
  obtain ⟨a, cap, xs, h⟩ := h
  have c0 := h.c0
  have hn5 := hok.1
  by_cases hf : 5 ≤ vs.length
  · have H : Hid (pushF k n ls vs = (3, vs)) := by rw [hr, if_pos hf]; exact rfl
    clear hr hv
    generalize hlen : vs.length = m at *
    have HL : Hid (vs.length = m) := hlen
    clear hlen h
    rcases hk with ⟨rfl, rfl⟩ | ⟨rfl, rfl⟩ | ⟨rfl, rfl⟩
    all_goals
      go_enter Try.func37, Try.ntmps37
      go_wp2_with fail
      go_ret
      exact ⟨by rw [H.out]; rfl, by rw [H.out]; exact Moved.same hS⟩
  · have H : Hid (pushF k n ls vs = lay 0 v vs) := by rw [hr, if_neg hf]; exact rfl
    have hsw := swap0 h hn5 hv
    clear hr hv
    rcases hk with ⟨rfl, rfl⟩ | ⟨rfl, rfl⟩ | ⟨rfl, rfl⟩
    all_goals
      go_enter Try.func37, Try.ntmps37
      go_wp2_with (go_at_call 72; refine hsw.mono ?_; rintro e w' ⟨rfl, hm⟩)
      go_ret
      exact ⟨by rw [H.out]; rfl, by rw [H.out]; exact hm⟩

theorem push_calls (k n : Int) (ls : List UInt8) (h : Stk w s g false vs) (hok : Okay vs) (hn : I64 n) :
    Calls Try.prog 37 #[.pointer (some ⟨s, 0, none⟩), .int .i64 k, .int .i64 n, .string (str ls)] w fun e w' => e = .returned (.int .i64 (pushF k n ls vs).1) ∧ Moved w s g false (pushF k n ls vs).2 w' := by
  by_cases hl : 6 < ls.length
  · have H : Hid (pushF k n ls vs = (1, vs)) := by unfold pushF; rw [if_pos hl]; exact rfl
    go_enter Try.func37, Try.ntmps37
    go_wp2_with fail
    go_ret
    exact ⟨by rw [H.out]; rfl, by rw [H.out]; exact Moved.same h⟩
  · have hl' : ls.length ≤ 6 := by omega
    by_cases h1 : k = 1
    · exact push_ok k n ls h hok hl' (by unfold pushF; rw [if_neg hl, if_pos h1]) (rep_int hn) (.inl ⟨h1, rfl⟩)
    · by_cases h2 : k = 2
      · exact push_ok k n ls h hok hl' (by unfold pushF; rw [if_neg hl, if_neg h1, if_pos h2]) (rep_str ls) (.inr (.inl ⟨h2, rfl⟩))
      · by_cases h3 : k = 3
        · exact push_ok k n ls h hok hl' (by unfold pushF; rw [if_neg hl, if_neg h1, if_neg h2, if_pos h3]) rep_nil (.inr (.inr ⟨h3, rfl⟩))
        · have H : Hid (pushF k n ls vs = (2, vs)) := by unfold pushF; rw [if_neg hl, if_neg h1, if_neg h2, if_neg h3]; exact rfl
          have k1 : (k == 1) = false := by simpa using h1
          have k2 : (k == 2) = false := by simpa using h2
          have k3 : (k == 3) = false := by simpa using h3
          clear h1 h2 h3
          go_enter Try.func37, Try.ntmps37
          go_wp2_with fail
          go_ret
          exact ⟨by rw [H.out]; rfl, by rw [H.out]; exact Moved.same h⟩

theorem dup_calls (h : Stk w s g false vs) (hok : Okay vs) :
    Calls Try.prog 45 #[.pointer (some ⟨s, 0, none⟩)] w fun e w' => e = .returned (.int .i64 (dupF vs).1) ∧ Moved w s g false (dupF vs).2 w' := by
  have hS := h
  obtain ⟨a, cap, xs, h⟩ := h
  have c0 := h.c0
  have hn5 := hok.1
  by_cases h0 : vs.length = 0
  · have H : Hid (dupF vs = (4, vs)) := by unfold dupF; rw [if_pos h0]; exact rfl
    have hpk := peek0_out h hn5 h0
    clear h
    go_enter Try.func45, Try.ntmps45
    go_wp2_with (go_at_call 73; refine hpk.mono ?_; rintro e w' ⟨rfl, rfl⟩)
    go_ret
    exact ⟨by rw [H.out]; rfl, by rw [H.out]; exact Moved.same hS⟩
  · obtain ⟨x, hx, hr⟩ := h.hasTop (by omega)
    have hpk := peek0 h hn5 x (by omega) hx
    by_cases hf : 5 ≤ vs.length
    · have H : Hid (dupF vs = (3, vs)) := by unfold dupF; rw [if_neg h0, if_pos hf]; exact rfl
      obtain ⟨T, y, rfl⟩ := hr.iface
      clear h hr hx
      go_enter Try.func45, Try.ntmps45
      go_wp2_with (go_at_call 73; refine hpk.mono ?_; rintro e w' ⟨rfl, rfl⟩)
      go_ret
      exact ⟨by rw [H.out]; rfl, by rw [H.out]; exact Moved.same hS⟩
    · have H : Hid (dupF vs = lay 0 (top vs) vs) := by unfold dupF; rw [if_neg h0, if_neg hf]; exact rfl
      have hsw := swap0 h hn5 hr
      obtain ⟨T, y, rfl⟩ := hr.iface
      clear h hr hx
      go_enter Try.func45, Try.ntmps45
      go_wp2_with (first | (go_at_call 73; refine hpk.mono ?_; rintro e w' ⟨rfl, rfl⟩) | (go_at_call 72; refine hsw.mono ?_; rintro e w' ⟨rfl, hm⟩))
      go_ret
      exact ⟨by rw [H.out]; rfl, by rw [H.out]; exact hm⟩
end
end Go.Proofs.Qxb6500606a
