/-
  plus; the word Add.
-/
import Derived.Test.Qxb6500606aAdds
namespace Go.Proofs.Qxb6500606a
open Go.ChangeShapes Go.WideShapes Go.ChangeAt Go.RowKit
attribute [local go_sem] str_size str_app str_app1 str_1app str_toList
set_option linter.unusedVariables false

theorem inner_app {w : World} : ∀ {a : V} {p : Option Addr} (b : V), Rep w a (.iface 84 (.pointer p)) → (inner (appL a b)).length ≤ (inner a).length + 1 + (inner b).length := by
  intro a
  induction a with
  | nil => intro p b _; simp [appL, inner_nil]
  | node t o x l r ihl ihr =>
    intro p b h
    cases p with
    | none => exact absurd (rep_list_none h) (by simp)
    | some p =>
      obtain ⟨l1, r1, b1, y, q, hv, hL, _, hb, h1, h2⟩ := rep_list_some h
      cases hv
      have := ihr b h2
      show (inner (vcons l (appL r b))).length ≤ _
      rw [inner_cons, inner_cons]
      have hs : (sepInner (appL r b)).length ≤ (inner (appL r b)).length + 1 := by cases appL r b <;> simp [sepInner]
      cases r with
      | nil =>
        simp [sepInner, appL] at hs ⊢
        cases b <;> simp <;> omega
      | node => simp [sepInner] at *; omega
theorem appL_isL : ∀ {a b : V}, isL b = true → isL (appL a b) = true
  | .nil, b, h => h
  | .node _ _ _ _ _, b, h => rfl
theorem list_of_kind {w : World} {v : V} {x : Value} (h : Rep w v x) (hk : kind v = 3) : ∃ p, x = .iface 84 (.pointer p) ∧ isL v = true := by
  obtain ⟨p, h1, h2, _⟩ := as_list h hk
  exact ⟨p, h1, h2⟩
theorem sum_text {w : World} {a b : V} {x y : Value} (ha : Rep w a x) (hb : Rep w b y) (hk : kind b = kind a) (hka : kind a ≠ 4) (h1 : (text a).length ≤ 30) (h2 : (text b).length ≤ 30) : (text (sumV a b)).length ≤ 200 := by
  rcases rep_cases ha with ⟨rfl, rfl⟩ | ⟨n, rfl, hn, rfl⟩ | ⟨s, rfl, rfl⟩ | ⟨l, r, b1, y1, q, rfl, hL, rfl, _⟩ | ⟨l, r, b1, y1, q, rfl, rfl, _⟩
  · show (text b).length ≤ 200; omega
  · show (itoa (wr (n + num b))).length ≤ 200
    have := itoa_length (wr (n + num b)); omega
  · rcases rep_cases hb with ⟨rfl, rfl⟩ | ⟨n, rfl, hn, rfl⟩ | ⟨s', rfl, rfl⟩ | ⟨l, r, b1, y1, q, rfl, hL, rfl, _⟩ | ⟨l, r, b1, y1, q, rfl, rfl, _⟩
    · cases hk
    · cases hk
    · show (text (vstr (s ++ s'))).length ≤ 200
      rw [text_str] at *
      have := itoa_length (s ++ s').length
      simp at *
      omega
    · cases hk
    · cases hk
  · obtain ⟨p, rfl, hLb⟩ := list_of_kind hb hk
    show (text (appL (vcons l r) b)).length ≤ 200
    have h3 := inner_app b ha
    rw [text_list _ (appL_isL hLb)]
    rw [text_list _ rfl] at h1
    rw [text_list _ hLb] at h2
    simp at *
    omega
  · exact absurd rfl hka

/-- x + y through the interface. -/
def AddsAt (w : World) (x y : Value) (a b : V) : Prop := ∃ f args, (invoke (.fn (.method "Add") #[]) #[x, y]).run Try.prog w = .ok (.enter f args) w ∧
  Calls Try.prog f args w fun e w' => Below w.heap.size w w' ∧ ((kind b = kind a ∧ ∃ T z, e = .returned (.tuple #[.iface T z, .int .i64 0]) ∧ Rep w' (sumV a b) (.iface T z)) ∨ (kind b ≠ kind a ∧ e = .returned (.tuple #[.nilIface, .int .i64 6])))
theorem adds {w : World} {a b : V} {x y : Value} (ha : Rep w a x) (hb : Rep w b y) (hka : kind a ≠ 4) (h1 : (text a).length ≤ 30) (h2 : (text b).length ≤ 30) : AddsAt w x y a b := by
  have hlist : ∀ p, isL a = true → kind a = 3 → x = .iface 84 (.pointer p) → sumV a b = appL a b → AddsAt w x y a b := fun p hL hk hx hs => by
    subst hx
    by_cases hkb : kind b = 3
    · refine ⟨_, _, inv_add_list _ _ _, (add_list_ok ha hL (elems_le ha (by omega)) hb hkb).mono ?_⟩
      rintro e w' ⟨r, rfl, hr, hbw⟩
      exact ⟨hbw, .inl ⟨by rw [hkb, hk], _, _, rfl, by rw [hs]; exact hr⟩⟩
    · refine ⟨_, _, inv_add_list _ _ _, (add_list_no p hb hkb).mono ?_⟩
      rintro e w' ⟨rfl, rfl⟩
      exact ⟨Below.refl _ _, .inr ⟨by rw [hk]; exact hkb, rfl⟩⟩
  rcases rep_cases ha with ⟨rfl, rfl⟩ | ⟨n, rfl, hn, rfl⟩ | ⟨s, rfl, rfl⟩ | ⟨l, r, b1, y1, q, rfl, hL, rfl, _⟩ | ⟨l, r, b1, y1, q, rfl, rfl, _⟩
  · exact hlist _ rfl rfl rfl rfl
  · by_cases hkb : kind b = 1
    · refine ⟨_, _, inv_add_int _ _ _, (add_int_ok n hb hkb).mono ?_⟩
      rintro e w' ⟨rfl, rfl⟩
      exact ⟨Below.refl _ _, .inl ⟨hkb, _, _, rfl, rep_int (wr_i64 _)⟩⟩
    · refine ⟨_, _, inv_add_int _ _ _, (add_int_no n hb hkb).mono ?_⟩
      rintro e w' ⟨rfl, rfl⟩
      exact ⟨Below.refl _ _, .inr ⟨hkb, rfl⟩⟩
  · by_cases hkb : kind b = 2
    · have hbl : (bytes b).length ≤ 1000 := by
        have := (as_str hb hkb).1
        rw [this, text_str] at h2
        simp at h2
        omega
      rw [text_str] at h1
      simp at h1
      refine ⟨_, _, inv_add_str _ _ _, (add_str_ok s (by omega) hb hkb hbl).mono ?_⟩
      rintro e w' ⟨rfl, rfl⟩
      exact ⟨Below.refl _ _, .inl ⟨hkb, _, _, rfl, rep_str _⟩⟩
    · refine ⟨_, _, inv_add_str _ _ _, (add_str_no s hb hkb).mono ?_⟩
      rintro e w' ⟨rfl, rfl⟩
      exact ⟨Below.refl _ _, .inr ⟨hkb, rfl⟩⟩
  · exact hlist _ rfl rfl rfl rfl
  · exact absurd rfl hka

/-- plus: its error and, where there is none, the sum. -/
def PlusOut (w : World) (a b : V) (e : Ending) (w' : World) : Prop := Below w.heap.size w w' ∧ ∃ z, e = .returned (.tuple #[z, .int .i64 (plusF a b).1]) ∧ (((plusF a b).1 = 0 ∧ Rep w' (plusF a b).2 z ∧ (text (plusF a b).2).length ≤ 30) ∨ ((plusF a b).1 ≠ 0 ∧ z = .nilIface))
set_option maxHeartbeats 400000 in
theorem plus_calls {w : World} {a b : V} {x y : Value} (ha : Rep w a x) (hb : Rep w b y) (h1 : (text a).length ≤ 30) (h2 : (text b).length ≤ 30) :
    Calls Try.prog 74 #[x, y] w (PlusOut w a b) := by
  have hta := as_add ha
  by_cases hka : kind a = 4
  · have H : Hid (plusF a b = (5, .nil)) := hide (by unfold plusF; rw [if_pos hka])
    have hc : canAdd a = false := by simp [canAdd, hka]
    rw [hc] at hta
    simp only [Bool.false_eq_true, if_false] at hta
    clear ha hb
    go_enter Try.func74, Try.ntmps74
    go_wp2
    go_ret2
    exact ⟨Below.refl _ _, _, by rw [H.out]; rfl, .inr ⟨by rw [H.out]; decide, rfl⟩⟩
  · have hc : canAdd a = true := by simp [canAdd, hka]
    rw [hc] at hta
    simp only [if_true] at hta
    obtain ⟨f, args, hinv, hcl⟩ := adds ha hb hka h1 h2
    by_cases hk : kind b = kind a
    · have hcl2 : Hid (Calls Try.prog f args w fun e w' => ∃ T z, e = .returned (.tuple #[.iface T z, .int .i64 0]) ∧ Rep w' (sumV a b) (.iface T z) ∧ Below w.heap.size w w') := hide (hcl.mono (by
        rintro e w' ⟨hbw, ⟨_, T, z, rfl, hr⟩ | ⟨hn, _⟩⟩
        · exact ⟨T, z, rfl, hr, hbw⟩
        · exact absurd hk hn))
      have hst := sum_text ha hb hk hka h1 h2
      have HF : Hid (∀ w1 T z, Rep w1 (sumV a b) (.iface T z) → Calls Try.prog 70 #[.iface T z] w1 fun e w' => e = .returned (.bool (decide ((text (sumV a b)).length ≤ 30))) ∧ Below w1.heap.size w1 w') := fun w1 T z hr => fits_calls hr (by omega)
      clear hcl ha hb
      by_cases hbig : 30 < (text (sumV a b)).length
      · have H : Hid (plusF a b = (7, .nil)) := hide (by unfold plusF; rw [if_neg hka, if_neg (by rw [hk]; exact fun h => h rfl), if_pos hbig])
        have hd : decide ((text (sumV a b)).length ≤ 30) = false := decide_eq_false (by omega)
        go_enter Try.func74, Try.ntmps74
        go_wp2_with (first | (refine wpList_invoke1 rfl _ _ "Add" _ rfl x y rfl rfl _ _ hinv _ hcl2.out ?_; rintro e w1 ⟨T, z, rfl, hr1, hb1⟩; have HR1 := hide hr1; clear hr1; refine ⟨_, rfl, ?_⟩) | (go_at_call 70; refine (HF.out _ _ _ HR1.out).mono ?_; rw [hd]; rintro e w2 ⟨rfl, hb2⟩))
        go_ret2
        exact ⟨hb1.trans (hb2.mono hb1.size), _, by rw [H.out]; rfl, .inr ⟨by rw [H.out]; decide, rfl⟩⟩
      · have H : Hid (plusF a b = (0, sumV a b)) := hide (by unfold plusF; rw [if_neg hka, if_neg (by rw [hk]; exact fun h => h rfl), if_neg hbig])
        have hd : decide ((text (sumV a b)).length ≤ 30) = true := decide_eq_true (by omega)
        go_enter Try.func74, Try.ntmps74
        go_wp2_with (first | (refine wpList_invoke1 rfl _ _ "Add" _ rfl x y rfl rfl _ _ hinv _ hcl2.out ?_; rintro e w1 ⟨T, z, rfl, hr1, hb1⟩; have HR1 := hide hr1; clear hr1; refine ⟨_, rfl, ?_⟩) | (go_at_call 70; refine (HF.out _ _ _ HR1.out).mono ?_; rw [hd]; rintro e w2 ⟨rfl, hb2⟩))
        go_ret2
        exact ⟨hb1.trans (hb2.mono hb1.size), _, by rw [H.out]; rfl, .inl ⟨by rw [H.out], by rw [H.out]; exact HR1.out.below hb2, by rw [H.out]; show (text (sumV a b)).length ≤ 30; omega⟩⟩
    · have hcl2 : Hid (Calls Try.prog f args w fun e w' => e = .returned (.tuple #[.nilIface, .int .i64 6]) ∧ Below w.heap.size w w') := hide (hcl.mono (by
        rintro e w' ⟨hbw, ⟨h, _⟩ | ⟨_, rfl⟩⟩
        · exact absurd h hk
        · exact ⟨rfl, hbw⟩))
      have H : Hid (plusF a b = (6, .nil)) := hide (by unfold plusF; rw [if_neg hka, if_pos hk])
      clear hcl ha hb
      go_enter Try.func74, Try.ntmps74
      go_wp2_with (refine wpList_invoke1 rfl _ _ "Add" _ rfl x y rfl rfl _ _ hinv _ hcl2.out ?_; rintro e w1 ⟨rfl, hb1⟩; refine ⟨_, rfl, ?_⟩)
      go_ret2
      exact ⟨hb1, _, by rw [H.out]; rfl, .inr ⟨by rw [H.out]; decide, rfl⟩⟩

section
variable {w : World} {s : Nat} {g : Option Nat} {vs : List V}
set_option maxHeartbeats 400000 in
theorem add_calls (h : Stk w s g false vs) (hok : Okay vs) :
    Calls Try.prog 40 #[.pointer (some ⟨s, 0, none⟩)] w fun e w' => e = .returned (.int .i64 (addF vs).1) ∧ Moved w s g false (addF vs).2 w' := by
  have hS := h
  obtain ⟨a, cap, xs, h⟩ := h
  have c0 := h.c0
  have hn5 := hok.1
  by_cases h0 : vs.length < 2
  · have H : Hid (addF vs = (4, vs)) := hide (by unfold addF; rw [if_pos h0])
    clear h
    generalize vs.length = n at *
    go_enter Try.func40, Try.ntmps40
    go_wp2_with fail
    go_ret
    exact ⟨by rw [H.out]; rfl, by rw [H.out]; exact Moved.same hS⟩
  · obtain ⟨x, hx, hr⟩ := h.hasTop (by omega)
    obtain ⟨y, hy, hry⟩ := h.hasUnder (by omega)
    have hp1 := hide (peek1 h hn5 y (by omega) hy)
    have hp0 := hide (peek0 h hn5 x (by omega) hx)
    have hpl := plus_calls hry hr (hok.subtop (by omega)) (hok.top (by omega))
    have hlt : decide ((vs.length : Int) < 2) = false := decide_eq_false (by omega)
    by_cases he : (plusF (subtop vs) (top vs)).1 = 0
    · have H : Hid (addF vs = lay 2 (plusF (subtop vs) (top vs)).2 vs) := hide (by unfold addF; rw [if_neg h0, if_neg (fun h => h he)])
      have hpl2 : Hid (Calls Try.prog 74 #[y, x] w fun e w' => ∃ z, e = .returned (.tuple #[z, .int .i64 0]) ∧ Rep w' (plusF (subtop vs) (top vs)).2 z ∧ Below w.heap.size w w') := hide (hpl.mono (by
        rintro e w' ⟨hbw, z, rfl, ⟨_, hr, _⟩ | ⟨hn, _⟩⟩
        · exact ⟨z, by rw [he], hr, hbw⟩
        · exact absurd he hn))
      have hsw : Hid (∀ w1 x', Below w.heap.size w w1 → Rep w1 (plusF (subtop vs) (top vs)).2 x' → Calls Try.prog 72 #[.pointer (some ⟨s, 0, none⟩), .int .i64 2, x'] w1 fun e w' => e = .returned (.tuple #[]) ∧ Moved w s g false (lay 2 (plusF (subtop vs) (top vs)).2 vs).2 w') :=
        fun w1 x' hb1 hr1 => (swap2 (h.below hb1) hn5 (by omega) hr1).mono (by rintro e w' ⟨rfl, hm⟩; exact ⟨rfl, .after hb1 hm⟩)
      clear h hr hx hry hy hpl he
      generalize vs.length = n at *
      go_enter Try.func40, Try.ntmps40
      go_wp2_with (first | (go_at_call_of 73 (Value.int .i64 1); refine hp1.out.mono ?_; rintro e w' ⟨rfl, hw⟩; subst w') | (go_at_call_of 73 (Value.int .i64 0); refine hp0.out.mono ?_; rintro e w' ⟨rfl, hw⟩; subst w') | (go_at_call 74; refine hpl2.out.mono ?_; rintro e w1 ⟨z, rfl, hr1, hb1⟩; have HR1 := hide hr1; clear hr1) | (go_at_call 72; refine (hsw.out _ _ hb1 HR1.out).mono ?_; rintro e w2 ⟨rfl, hm⟩))
      go_ret
      exact ⟨by rw [H.out]; rfl, by rw [H.out]; exact hm⟩
    · have H : Hid (addF vs = ((plusF (subtop vs) (top vs)).1, vs)) := hide (by unfold addF; rw [if_neg h0, if_pos he])
      have hpl2 : Hid (Calls Try.prog 74 #[y, x] w fun e w' => e = .returned (.tuple #[.nilIface, .int .i64 (plusF (subtop vs) (top vs)).1]) ∧ Below w.heap.size w w') := hide (hpl.mono (by
        rintro e w' ⟨hbw, z, rfl, ⟨h1, _⟩ | ⟨hn, rfl⟩⟩
        · exact absurd h1 he
        · exact ⟨rfl, hbw⟩))
      have hne : ((plusF (subtop vs) (top vs)).1 != 0) = true := by simpa using he
      clear h hr hx hry hy hpl he
      generalize vs.length = n at *
      go_enter Try.func40, Try.ntmps40
      go_wp2_with (first | (go_at_call_of 73 (Value.int .i64 1); refine hp1.out.mono ?_; rintro e w' ⟨rfl, hw⟩; subst w') | (go_at_call_of 73 (Value.int .i64 0); refine hp0.out.mono ?_; rintro e w' ⟨rfl, hw⟩; subst w') | (go_at_call 74; refine hpl2.out.mono ?_; rintro e w1 ⟨rfl, hb1⟩))
      go_ret
      exact ⟨by rw [H.out]; rfl, by rw [H.out]; exact Moved.below hS hb1⟩
end
end Go.Proofs.Qxb6500606a
