/-
  THE BARE STYLE: bare assertions that fail; must, take, give, double.
-/
import Derived.Test.Qxb6500606aFold
import Derived.Defers
import Derived.Recover
namespace Go.Proofs.Qxb6500606a
open Go.ChangeShapes Go.WideShapes Go.ChangeAt Go.RowKit Go.Shelf
attribute [local go_sem] str_size str_app str_app1 str_1app str_toList
set_option linter.unusedVariables false

theorem tae_is : Try.prog.rt.typeAssertionError = 15 := by kernel_rfl
/-- An assertion that fails bare: the panic, and a new block that it leads to. -/
def Fails (x : Value) (t : TypeId) : Prop := ∀ W : World, ∃ cs T, (Instr.typeAssert x 60 t false).run Try.prog W = .halt (.panic (.iface 15 (.pointer (some ⟨W.heap.size, 0, none⟩)))) (W.alloc (.cells cs T))
theorem run_tae (a b : Option TypeId) (c : TypeId) (m : String) (W : World) : ∃ cs T, (runtimePanic (α := Value) (.typeAssertion a b c m)).run Try.prog W = .halt (.panic (.iface 15 (.pointer (some ⟨W.heap.size, 0, none⟩)))) (W.alloc (.cells cs T)) := by
  apply Exists.intro
  apply Exists.intro
  simp only [runtimePanic, elemOf, newVar, newRow, run_program, Sem.run_bind, Result.andThen_ok, tae_is, run_underlying Try.underlying15, Sem.run_pure]
  rfl
theorem fails_lacks {asserted t : TypeId} {want : Array (String × TypeId)} (hu : Try.prog.underlying asserted = some (.interface want)) (h : (Try.prog.info? t).map (fun i => (lacking want i.methods).isEmpty) = some false)
    (v : Value) : Fails (.iface t v) asserted := by
  intro W
  obtain ⟨i, hi, hl⟩ := Option.map_eq_some_iff.1 h
  obtain ⟨m, hm⟩ := missingMethod_some (want := want) (got := i.methods) (fun e => by rw [e] at hl; cases hl)
  obtain ⟨cs, T, hr⟩ := run_tae none (some t) asserted m W
  exact ⟨cs, T, by simp [Instr.typeAssert, run_underlying hu, typeInfo, hi, hm, hr]⟩
theorem fails_nil {asserted : TypeId} {want : Array (String × TypeId)} (hu : Try.prog.underlying asserted = some (.interface want)) : Fails .nilIface asserted := by
  intro W
  obtain ⟨cs, T, hr⟩ := run_tae none none asserted "" W
  exact ⟨cs, T, by simp [Instr.typeAssert, run_underlying hu, hr]⟩
theorem add_nil : Fails .nilIface 119 := fails_nil Try.underlying119
theorem iter_nil : Fails .nilIface 103 := fails_nil Try.underlying103
theorem add_fails {w : World} {v : V} {x : Value} (h : Rep w v x) (hc : canAdd v = false) : Fails x 119 := by
  rcases rep_cases h with ⟨rfl, rfl⟩ | ⟨n, rfl, _, rfl⟩ | ⟨s, rfl, rfl⟩ | ⟨l, r, b, y, q, rfl, _, rfl, _⟩ | ⟨l, r, b, y, q, rfl, rfl, _⟩
  · cases hc
  · cases hc
  · cases hc
  · cases hc
  · exact fails_lacks Try.underlying119 (by kernel_rfl) _
theorem iter_fails {w : World} {v : V} {x : Value} (h : Rep w v x) (hc : canIter v = false) : Fails x 103 := by
  rcases rep_cases h with ⟨rfl, rfl⟩ | ⟨n, rfl, _, rfl⟩ | ⟨s, rfl, rfl⟩ | ⟨l, r, b, y, q, rfl, _, rfl, _⟩ | ⟨l, r, b, y, q, rfl, rfl, _⟩
  · cases hc
  · exact fails_lacks Try.underlying103 (by kernel_rfl) _
  · exact fails_lacks Try.underlying103 (by kernel_rfl) _
  · cases hc
  · cases hc
theorem add_holds {w : World} {v : V} {x : Value} (h : Rep w v x) (hc : canAdd v = true) (W : World) : (Instr.typeAssert x 60 119 false).run Try.prog W = .ok x W := by
  rcases rep_cases h with ⟨rfl, rfl⟩ | ⟨n, rfl, _, rfl⟩ | ⟨s, rfl, rfl⟩ | ⟨l, r, b, y, q, rfl, _, rfl, _⟩ | ⟨l, r, b, y, q, rfl, rfl, _⟩
  · exact run_bare_hasB Try.underlying119 (by kernel_rfl) _ _ W
  · exact run_bare_hasB Try.underlying119 (by kernel_rfl) _ _ W
  · exact run_bare_hasB Try.underlying119 (by kernel_rfl) _ _ W
  · exact run_bare_hasB Try.underlying119 (by kernel_rfl) _ _ W
  · cases hc
theorem iter_holds {w : World} {v : V} {x : Value} (h : Rep w v x) (hc : canIter v = true) (W : World) : (Instr.typeAssert x 60 103 false).run Try.prog W = .ok x W := by
  rcases rep_cases h with ⟨rfl, rfl⟩ | ⟨n, rfl, _, rfl⟩ | ⟨s, rfl, rfl⟩ | ⟨l, r, b, y, q, rfl, _, rfl, _⟩ | ⟨l, r, b, y, q, rfl, rfl, _⟩
  · exact run_bare_hasB Try.underlying103 (by kernel_rfl) _ _ W
  · cases hc
  · cases hc
  · exact run_bare_hasB Try.underlying103 (by kernel_rfl) _ _ W
  · exact run_bare_hasB Try.underlying103 (by kernel_rfl) _ _ W

/-- What a word has thrown. -/
def Threw (v : Value) (er : Int) : Prop := v = .iface 25 (.int .i64 er) ∨ (er = 5 ∧ ∃ y, v = .iface 15 y) ∨ (er = 5 ∧ ∃ y, v = .iface 10 y)
def thrown (v : Value) : List PanicEntry := [{ v := v, recovered := false }]
/-- What a bare word leaves: its own new stack, or its panic (the stack then is some stack). -/
def WordOut (w : World) (s : Nat) (g : Option Nat) (vs : St) (r : Int × St) (e : Ending) (w' : World) : Prop :=
  (e = .returned (.tuple #[]) ∧ r.1 = 0 ∧ Moved w s g true r.2 w') ∨ (∃ v vs', e = .panicked (thrown v) ∧ r.1 ≠ 0 ∧ r.2 = vs ∧ Threw v r.1 ∧ Moved w s g true vs' w')

theorem Moved.drew {w W : World} {s : Nat} {g : Option Nat} {busy : Bool} {vs : St} (hm : Moved w s g busy vs W) : Moved w s g busy vs W.drew := by
  obtain ⟨g', ⟨a, cap, xs, h⟩, hg, ho⟩ := hm
  exact ⟨g', ⟨a, cap, xs, h.only (fun _ _ => rfl) (fun _ _ _ _ e => e)⟩, hg, ⟨ho.os, ho.tape, ho.output, ho.size, ho.block⟩⟩

theorem must_ok (w : World) : Calls Try.prog 85 #[.int .i64 0] w fun e w' => e = .returned (.tuple #[]) ∧ w' = w := by
  go_enter Try.func85, Try.ntmps85
  go_wp2
  go_end0
  exact ⟨rfl, rfl⟩
theorem must_no (w : World) (er : Int) (h : er ≠ 0) : Calls Try.prog 85 #[.int .i64 er] w fun e w' => e = .panicked (thrown (.iface 25 (.int .i64 er))) ∧ w' = w := by
  have hne : (er != 0) = true := by simpa using h
  go_enter Try.func85, Try.ntmps85
  go_wp2
  exact ⟨rfl, rfl, rfl⟩

section
variable {w : World} {s : Nat} {g : Option Nat} {vs : List V} {busy : Bool}
set_option maxHeartbeats 400000 in
theorem give_ok {v : V} {x : Value} (h : Stk w s g busy vs) (hn : vs.length < 5) (hv : Rep w v x) :
    Calls Try.prog 87 #[.pointer (some ⟨s, 0, none⟩), x] w fun e w' => e = .returned (.tuple #[]) ∧ Moved w s g busy (vs ++ [v]) w' := by
  obtain ⟨a, cap, xs, h⟩ := h
  have c0 := h.c0
  have hsw := swap0 h (by omega) hv
  have el : (lay 0 v vs).2 = vs ++ [v] := by simp [lay]
  rw [el] at hsw
  have hsw := hide hsw
  have hge : decide ((vs.length : Int) ≥ 5) = false := decide_eq_false (by omega)
  clear h hv
  generalize vs.length = n at *
  go_enter Try.func87, Try.ntmps87
  go_wp2_with (go_at_call 72; refine hsw.out.mono ?_; rintro e w1 ⟨rfl, hm⟩)
  go_end0
  exact ⟨rfl, hm⟩
theorem give_full {x : Value} (h : Stk w s g busy vs) (hn : vs.length = 5) :
    Calls Try.prog 87 #[.pointer (some ⟨s, 0, none⟩), x] w fun e w' => e = .panicked (thrown (.iface 25 (.int .i64 3))) ∧ w' = w := by
  obtain ⟨a, cap, xs, h⟩ := h
  have c0 := h.c0
  rw [hn] at c0
  clear h
  go_enter Try.func87, Try.ntmps87
  go_wp2
  exact ⟨rfl, rfl, rfl⟩
theorem take_none (h : Stk w s g busy vs) (hn : vs.length = 0) :
    Calls Try.prog 86 #[.pointer (some ⟨s, 0, none⟩)] w fun e w' => e = .returned .nilIface ∧ w' = w := by
  obtain ⟨a, cap, xs, h⟩ := h
  have hpk := hide (peek0_out h (by omega) hn)
  clear h
  go_enter Try.func86, Try.ntmps86
  go_wp2_with (go_at_call 73; refine hpk.out.mono ?_; rintro e w' ⟨rfl, hw⟩; subst w')
  go_ret
  exact ⟨rfl, rfl⟩
set_option maxHeartbeats 1000000 in
theorem take_some (h : Stk w s g busy vs) (hn5 : vs.length ≤ 5) (hn : 0 < vs.length) :
    ∃ x, Rep w (top vs) x ∧ Calls Try.prog 86 #[.pointer (some ⟨s, 0, none⟩)] w fun e w' => e = .returned x ∧ Moved w s g busy (vs.take (vs.length - 1)) w' := by
  obtain ⟨a, cap, xs, h⟩ := h
  obtain ⟨x, hx, hr⟩ := h.hasTop (by omega)
  refine ⟨x, hr, ?_⟩
  obtain ⟨T, y, hxy⟩ := hr.iface
  subst hxy
  have hpk := hide (peek0 h hn5 _ (by omega) hx)
  have c0 := h.c0
  have z0 := h.z 0
  have hcap := ownsRow_cap h.row
  have HH := hide h
  have HR := hide hr
  clear h hx hr
  generalize hvn : vs.length = n at *
  have HN := hide hvn
  clear hvn
  have hw1 : wrap64 ((n : Int) - 1) = n - 1 := by unfold wrap64; omega
  go_enter Try.func86, Try.ntmps86
  go_wp2_with (go_at_call 73; refine hpk.out.mono ?_; rintro e w' ⟨rfl, hw⟩; subst w')
  go_region
  go_wp2
  go_ret
  refine ⟨rfl, ?_⟩
  obtain ⟨h1, h2⟩ := HH.out.cut (vs.length - 1) (by omega)
  have e : vs.length - 1 = n - 1 := by rw [HN.out]
  rw [e] at h1 h2
  exact Moved.drew ⟨g, ⟨a, cap, _, h1⟩, fun b hb => .inl hb, h2⟩

theorem double_fails {w : World} {vs : St} (h : Stk w s g true vs) {x : Value} (hpk : Calls Try.prog 73 #[.pointer (some ⟨s, 0, none⟩), .int .i64 0] w fun e w' => e = .returned x ∧ w' = w) (hf : Fails x 119) (hr : doubleF vs = (5, vs)) :
    Calls Try.prog 76 #[.pointer (some ⟨s, 0, none⟩)] w (WordOut w s g vs (doubleF vs)) := by
  obtain ⟨cs, T, hf⟩ := hf w
  have H := hide hr
  have hpk := hide hpk
  clear hr
  go_enter Try.func76, Try.ntmps76
  go_wp2_with (go_at_call 73; refine hpk.out.mono ?_; rintro e w' ⟨rfl, hw⟩; subst w')
  refine ⟨rfl, .inr ⟨_, vs, rfl, by rw [H.out]; exact (by decide : (5 : Int) ≠ 0), by rw [H.out], .inr (.inl ⟨by rw [H.out], _, rfl⟩), Moved.below h (below_alloc (Below.refl _ _))⟩⟩
set_option maxHeartbeats 1000000 in
theorem double_calls {w : World} {vs : St} (h : Stk w s g true vs) (hok : Okay vs) : Calls Try.prog 76 #[.pointer (some ⟨s, 0, none⟩)] w (WordOut w s g vs (doubleF vs)) := by
  have hS := h
  obtain ⟨a, cap, xs, h⟩ := h
  have hn5 := hok.1
  by_cases h0 : vs.length = 0
  · exact double_fails hS (peek0_out h hn5 h0) add_nil (by unfold doubleF; rw [if_pos h0])
  · obtain ⟨x, hx, hr⟩ := h.hasTop (by omega)
    have hpk := peek0 h hn5 x (by omega) hx
    cases hc : canAdd (top vs) with
    | false => exact double_fails hS hpk (add_fails hr hc) (by unfold doubleF; rw [if_neg h0, hc]; rfl)
    | true =>
      have hka : kind (top vs) ≠ 4 := by simpa [canAdd] using hc
      have hD : doubleF vs = if (plusF (top vs) (top vs)).1 ≠ 0 then ((plusF (top vs) (top vs)).1, vs) else lay 1 (plusF (top vs) (top vs)).2 vs := by unfold doubleF; rw [if_neg h0, hc]; rfl
      have ht := hok.top (by omega)
      have hta := as_add hr
      rw [hc] at hta
      simp only [if_true] at hta
      have hth := add_holds hr hc
      obtain ⟨f, args, hinv, hcl⟩ := adds hr hr hka ht ht
      have hcl2 : Hid (Calls Try.prog f args w fun e w' => ∃ T z, e = .returned (.tuple #[.iface T z, .int .i64 0]) ∧ Rep w' (sumV (top vs) (top vs)) (.iface T z) ∧ Below w.heap.size w w') := hide (hcl.mono (by
        rintro e w' ⟨hbw, ⟨_, T, z, rfl, hr⟩ | ⟨hn, _⟩⟩
        · exact ⟨T, z, rfl, hr, hbw⟩
        · exact absurd rfl hn))
      have hst := sum_text hr hr rfl hka ht ht
      have HF : Hid (∀ w1 T z, Rep w1 (sumV (top vs) (top vs)) (.iface T z) → Calls Try.prog 70 #[.iface T z] w1 fun e w' => e = .returned (.bool (decide ((text (sumV (top vs) (top vs))).length ≤ 30))) ∧ Below w1.heap.size w1 w') := fun w1 T z hr => fits_calls hr (by omega)
      have hpk := hide hpk
      by_cases hbig : 30 < (text (sumV (top vs) (top vs))).length
      · have HP : plusF (top vs) (top vs) = (7, .nil) := by unfold plusF; rw [if_neg hka, if_neg (fun h => h rfl), if_pos hbig]
        have H : Hid (doubleF vs = (7, vs)) := by rw [hD, HP]; exact rfl
        have hd : decide ((text (sumV (top vs) (top vs))).length ≤ 30) = false := decide_eq_false (by omega)
        clear h hx hr hcl HP hD
        have HM : Hid (∀ W, Calls Try.prog 85 #[.int .i64 7] W fun e w' => e = .panicked (thrown (.iface 25 (.int .i64 7))) ∧ w' = W) := fun W => must_no W 7 (by decide)
        go_enter Try.func76, Try.ntmps76
        go_wp2_with (first | (go_at_call 73; refine hpk.out.mono ?_; rintro e w' ⟨rfl, hw⟩; subst w') | (refine wpList_invoke1 rfl _ _ "Add" _ rfl x x rfl rfl _ _ hinv _ hcl2.out ?_; rintro e w1 ⟨T, z, rfl, hr1, hb1⟩; have HR1 := hide hr1; clear hr1; refine ⟨_, rfl, ?_⟩) | (go_at_call 70; refine (HF.out _ _ _ HR1.out).mono ?_; rw [hd]; rintro e w2 ⟨rfl, hb2⟩) | (go_at_call 85; refine (HM.out _).mono ?_; rintro e w' ⟨rfl, hw⟩; subst w'))
        refine ⟨rfl, .inr ⟨_, vs, rfl, by rw [H.out]; exact (by decide : (7 : Int) ≠ 0), by rw [H.out], .inl (by rw [H.out]), Moved.below hS (hb1.trans (hb2.mono hb1.size))⟩⟩
      · have HP : plusF (top vs) (top vs) = (0, sumV (top vs) (top vs)) := by unfold plusF; rw [if_neg hka, if_neg (fun h => h rfl), if_neg hbig]
        have H : Hid (doubleF vs = lay 1 (sumV (top vs) (top vs)) vs) := by rw [hD, HP]; exact rfl
        have hd : decide ((text (sumV (top vs) (top vs))).length ≤ 30) = true := decide_eq_true (by omega)
        have hsw : Hid (∀ w1 x', Below w.heap.size w w1 → Rep w1 (sumV (top vs) (top vs)) x' → Calls Try.prog 72 #[.pointer (some ⟨s, 0, none⟩), .int .i64 1, x'] w1 fun e w' => e = .returned (.tuple #[]) ∧ Moved w s g true (lay 1 (sumV (top vs) (top vs)) vs).2 w') :=
          fun w1 x' hb1 hr1 => (swap1 (h.below hb1) hn5 (by omega) hr1).mono (by rintro e w' ⟨rfl, hm⟩; exact ⟨rfl, .after hb1 hm⟩)
        clear h hx hr hcl HP hD
        have HM : Hid (∀ W, Calls Try.prog 85 #[.int .i64 0] W fun e w' => e = .returned (.tuple #[]) ∧ w' = W) := fun W => must_ok W
        go_enter Try.func76, Try.ntmps76
        go_wp2_with (first | (go_at_call 73; refine hpk.out.mono ?_; rintro e w' ⟨rfl, hw⟩; subst w') | (refine wpList_invoke1 rfl _ _ "Add" _ rfl x x rfl rfl _ _ hinv _ hcl2.out ?_; rintro e w1 ⟨T, z, rfl, hr1, hb1⟩; have HR1 := hide hr1; clear hr1; refine ⟨_, rfl, ?_⟩) | (go_at_call 70; refine (HF.out _ _ _ HR1.out).mono ?_; rw [hd]; rintro e w2 ⟨rfl, hb2⟩) | (go_at_call 85; refine (HM.out _).mono ?_; rintro e w' ⟨rfl, hw⟩; subst w') | (go_at_call 72; refine (hsw.out _ _ (hb1.trans (hb2.mono hb1.size)) (HR1.out.below hb2)).mono ?_; rintro e w3 ⟨rfl, hm⟩))
        go_end0
        exact .inl ⟨rfl, by rw [H.out]; rfl, by rw [H.out]; exact hm⟩
end
end Go.Proofs.Qxb6500606a
