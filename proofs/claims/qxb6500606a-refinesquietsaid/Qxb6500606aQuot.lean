/-
  quot: a bare division.
-/
import Derived.Test.Qxb6500606aSpread
namespace Go.Proofs.Qxb6500606a
open Go.ChangeShapes Go.WideShapes Go.ChangeAt Go.RowKit Go.Shelf
set_option linter.unusedVariables false

theorem int_fails_nil : Fails .nilIface 82 := by
  intro W
  obtain ⟨cs, T, hr⟩ := run_tae (some 60) none 82 "" W
  exact ⟨cs, T, by simp [Instr.typeAssert, run_underlying Try.underlying82, hr]⟩
theorem int_fails {w : World} {v : V} {x : Value} (h : Rep w v x) (hk : kind v ≠ 1) : Fails x 82 := by
  have key : ∀ (t : TypeId) (y : Value), t ≠ 82 → Fails (.iface t y) 82 := fun t y ht W => by
    obtain ⟨cs, T, hr⟩ := run_tae (some 60) (some t) 82 "" W
    exact ⟨cs, T, by simp [Instr.typeAssert, run_underlying Try.underlying82, ht, hr]⟩
  rcases rep_cases h with ⟨rfl, rfl⟩ | ⟨n, rfl, _, rfl⟩ | ⟨s, rfl, rfl⟩ | ⟨l, r, b, y, q, rfl, _, rfl, _⟩ | ⟨l, r, b, y, q, rfl, rfl, _⟩
  · exact key _ _ (by decide)
  · exact absurd rfl hk
  · exact key _ _ (by decide)
  · exact key _ _ (by decide)
  · exact key _ _ (by decide)
theorem int_holds {w : World} {v : V} {x : Value} (h : Rep w v x) (hk : kind v = 1) : I64 (num v) ∧ ∀ W : World, (Instr.typeAssert x 60 82 false).run Try.prog W = .ok (.int .i64 (num v)) W := by
  rcases rep_cases h with ⟨rfl, rfl⟩ | ⟨n, rfl, hn, rfl⟩ | ⟨s, rfl, rfl⟩ | ⟨l, r, b, y, q, rfl, _, rfl, _⟩ | ⟨l, r, b, y, q, rfl, rfl, _⟩
  · cases hk
  · exact ⟨hn, fun W => by kernel_rfl⟩
  · cases hk
  · cases hk
  · cases hk
section
variable {w : World} {s : Nat} {g : Option Nat} {vs : List V}
/-- The first assertion fails. -/
theorem quot_fails1 (vs' : St) {x : Value} (htk : Calls Try.prog 86 #[.pointer (some ⟨s, 0, none⟩)] w fun e w' => e = .returned x ∧ Moved w s g true vs' w') (hf : Fails x 82) (hr : quotF vs = (5, vs)) :
    Calls Try.prog 79 #[.pointer (some ⟨s, 0, none⟩)] w (WordOut w s g vs (quotF vs)) := by
  have HF := hide hf
  have H := hide hr
  have htk := hide htk
  clear hr hf
  go_enter Try.func79, Try.ntmps79
  go_wp2_with (go_at_call 86; refine htk.out.mono ?_; rintro e w1 ⟨rfl, hm⟩; obtain ⟨cs, T, hf1⟩ := HF.out w1)
  exact ⟨rfl, .inr ⟨_, vs', rfl, by rw [H.out]; exact (by decide : (5 : Int) ≠ 0), by rw [H.out], .inr (.inl ⟨by rw [H.out], _, rfl⟩), hm.alloc _⟩⟩
def Second (w : World) (s : Nat) (g : Option Nat) (vs1 vs2 : St) (p : Value → Prop) : Prop := ∀ W, Moved w s g true vs1 W → ∃ y, p y ∧ Calls Try.prog 86 #[.pointer (some ⟨s, 0, none⟩)] W fun e w' => e = .returned y ∧ Moved w s g true vs2 w'
def IsInt (n : Int) (y : Value) : Prop := ∀ W : World, (Instr.typeAssert y 60 82 false).run Try.prog W = .ok (.int .i64 n) W
set_option maxHeartbeats 400000 in
theorem quot_fails2 (vs1 vs2 : St) {x : Value} {n : Int} (htk : Calls Try.prog 86 #[.pointer (some ⟨s, 0, none⟩)] w fun e w' => e = .returned x ∧ Moved w s g true vs1 w')
    (htk2 : Second w s g vs1 vs2 (fun y => Fails y 82)) (ha : IsInt n x) (hr : quotF vs = (5, vs)) :
    Calls Try.prog 79 #[.pointer (some ⟨s, 0, none⟩)] w (WordOut w s g vs (quotF vs)) := by
  have H := hide hr
  have htk := hide htk
  have htk2 := hide htk2
  have ha : ∀ W : World, (Instr.typeAssert x 60 82 false).run Try.prog W = .ok (.int .i64 n) W := ha
  clear hr
  go_enter Try.func79, Try.ntmps79
  go_wp2_with (go_at_call 86; refine htk.out.mono ?_; rintro e w1 ⟨rfl, hm⟩)
  obtain ⟨y, hf, hc2⟩ := htk2.out _ hm
  have HC2 := hide hc2
  have HF := hide hf
  clear hc2 hf
  refine HC2.out.mono ?_
  rintro e w2 ⟨rfl, hm2⟩
  obtain ⟨cs, T, hf1⟩ := HF.out w2
  go_wp2_with fail
  exact ⟨rfl, .inr ⟨_, vs2, rfl, by rw [H.out]; exact (by decide : (5 : Int) ≠ 0), by rw [H.out], .inr (.inl ⟨by rw [H.out], _, rfl⟩), hm2.alloc _⟩⟩
set_option maxHeartbeats 400000 in
theorem quot_zero (vs1 vs2 : St) {x : Value} {n : Int} (htk : Calls Try.prog 86 #[.pointer (some ⟨s, 0, none⟩)] w fun e w' => e = .returned x ∧ Moved w s g true vs1 w')
    (htk2 : Second w s g vs1 vs2 (IsInt n)) (ha : IsInt 0 x) (hr : quotF vs = (5, vs)) :
    Calls Try.prog 79 #[.pointer (some ⟨s, 0, none⟩)] w (WordOut w s g vs (quotF vs)) := by
  have H := hide hr
  have htk := hide htk
  have htk2 := hide htk2
  have ha : ∀ W : World, (Instr.typeAssert x 60 82 false).run Try.prog W = .ok (.int .i64 0) W := ha
  clear hr
  go_enter Try.func79, Try.ntmps79
  go_wp2_with (go_at_call 86; refine htk.out.mono ?_; rintro e w1 ⟨rfl, hm⟩)
  obtain ⟨y, hb, hc2⟩ := htk2.out _ hm
  have HC2 := hide hc2
  have hb : ∀ W : World, (Instr.typeAssert y 60 82 false).run Try.prog W = .ok (.int .i64 n) W := hb
  clear hc2
  refine HC2.out.mono ?_
  rintro e w2 ⟨rfl, hm2⟩
  go_wp2_with fail
  exact ⟨rfl, .inr ⟨_, vs2, rfl, by rw [H.out]; exact (by decide : (5 : Int) ≠ 0), by rw [H.out], .inr (.inr ⟨by rw [H.out], _, rfl⟩), hm2⟩⟩
set_option maxHeartbeats 400000 in
theorem quot_goes (vs1 vs2 : St) {x : Value} {n m : Int} (hm0 : ¬ m = 0) (hl : vs2.length < 5) (htk : Calls Try.prog 86 #[.pointer (some ⟨s, 0, none⟩)] w fun e w' => e = .returned x ∧ Moved w s g true vs1 w')
    (htk2 : Second w s g vs1 vs2 (IsInt n)) (ha : IsInt m x) (hr : quotF vs = (0, vs2 ++ [vint (wr (n.tdiv m))])) :
    Calls Try.prog 79 #[.pointer (some ⟨s, 0, none⟩)] w (WordOut w s g vs (quotF vs)) := by
  have H := hide hr
  have htk := hide htk
  have htk2 := hide htk2
  have ha : ∀ W : World, (Instr.typeAssert x 60 82 false).run Try.prog W = .ok (.int .i64 m) W := ha
  clear hr
  have hgv : Hid (∀ W, Moved w s g true vs2 W → Calls Try.prog 87 #[.pointer (some ⟨s, 0, none⟩), .iface 82 (.int .i64 (wr (n.tdiv m)))] W fun e w' => e = .returned (.tuple #[]) ∧ Moved w s g true (vs2 ++ [vint (wr (n.tdiv m))]) w') := fun W hW => by
    obtain ⟨g', h1, h2, h3⟩ := hW
    refine (give_ok h1 hl (rep_int (wr_i64 _))).mono ?_
    rintro e w' ⟨rfl, hm⟩
    exact ⟨rfl, Moved.then h2 h3 hm⟩
  go_enter Try.func79, Try.ntmps79
  go_wp2_with (go_at_call 86; refine htk.out.mono ?_; rintro e w1 ⟨rfl, hm⟩)
  obtain ⟨y, hb, hc2⟩ := htk2.out _ hm
  have HC2 := hide hc2
  have hb : ∀ W : World, (Instr.typeAssert y 60 82 false).run Try.prog W = .ok (.int .i64 n) W := hb
  clear hc2
  refine HC2.out.mono ?_
  rintro e w2 ⟨rfl, hm2⟩
  go_wp2_with fail
  rw [wr_eq]
  refine (hgv.out _ hm2).mono ?_
  rintro e w3 ⟨rfl, hm3⟩
  go_wp2
  go_end0
  exact .inl ⟨rfl, by rw [H.out], by rw [H.out]; exact hm3⟩
theorem quot_calls (h : Stk w s g true vs) (hok : Okay vs) : Calls Try.prog 79 #[.pointer (some ⟨s, 0, none⟩)] w (WordOut w s g vs (quotF vs)) := by
  have hn5 := hok.1
  by_cases h0 : vs.length = 0
  · refine quot_fails1 vs ((take_none h h0).mono ?_) int_fails_nil (by unfold quotF; rw [if_pos (by omega)])
    rintro e w' ⟨rfl, rfl⟩
    exact ⟨rfl, Moved.same h⟩
  · obtain ⟨x, hrx, htk⟩ := take_some h hn5 (by omega)
    by_cases hkx : kind (top vs) = 1
    · obtain ⟨hnx, hax⟩ := int_holds hrx hkx
      have hl1 : (vs.take (vs.length - 1)).length = vs.length - 1 := by simp
      by_cases h1 : vs.length = 1
      · have hr : quotF vs = (5, vs) := by unfold quotF; rw [if_pos (by omega)]
        refine quot_fails2 _ (vs.take (vs.length - 1)) htk ?_ hax hr
        intro W hm
        refine ⟨.nilIface, int_fails_nil, ?_⟩
        obtain ⟨g', k1, k2, k3⟩ := hm
        refine (take_none k1 (by omega)).mono ?_
        rintro e w' ⟨rfl, rfl⟩
        exact ⟨rfl, g', k1, k2, k3⟩
      · have htop : top (vs.take (vs.length - 1)) = subtop vs := by
          unfold top subtop
          rw [hl1, List.getD_eq_getElem?_getD, List.getD_eq_getElem?_getD, List.getElem?_take_of_lt (by omega)]
        have htt : (vs.take (vs.length - 1)).take ((vs.take (vs.length - 1)).length - 1) = vs.take (vs.length - 2) := by
          rw [hl1, List.take_take]
          congr 1
          omega
        have hsec : ∀ p : Value → Prop, (∀ W y, Rep W (subtop vs) y → p y) → Second w s g (vs.take (vs.length - 1)) (vs.take (vs.length - 2)) p := by
          intro p hp W hm
          obtain ⟨g', k1, k2, k3⟩ := hm
          obtain ⟨y, hry, htk2⟩ := take_some k1 (by omega) (by omega)
          rw [htop] at hry
          rw [htt] at htk2
          refine ⟨y, hp W y hry, htk2.mono ?_⟩
          rintro e w' ⟨rfl, hm2⟩
          exact ⟨rfl, Moved.then k2 k3 hm2⟩
        by_cases hky : kind (subtop vs) = 1
        · by_cases hz : num (top vs) = 0
          · rw [hz] at hax
            refine quot_zero _ (vs.take (vs.length - 2)) (n := num (subtop vs)) htk (hsec _ fun W y hy => (int_holds hy hky).2) hax ?_
            unfold quotF
            rw [if_neg (by omega), if_neg (fun h => h.2.2 hz)]
          · refine quot_goes _ (vs.take (vs.length - 2)) (n := num (subtop vs)) (m := num (top vs)) hz (by simp; omega) htk (hsec _ fun W y hy => (int_holds hy hky).2) hax ?_
            unfold quotF
            rw [if_neg (by omega), if_pos ⟨hkx, hky, hz⟩]
            rfl
        · refine quot_fails2 _ (vs.take (vs.length - 2)) htk (hsec _ fun W y hy => int_fails hy hky) hax ?_
          unfold quotF
          rw [if_neg (by omega), if_neg (fun h => hky h.2.1)]
    · refine quot_fails1 (vs.take (vs.length - 1)) htk (int_fails hrx hkx) ?_
      unfold quotF
      by_cases h1 : vs.length < 2
      · rw [if_pos h1]
      · rw [if_neg h1, if_neg (fun h => hkx h.1)]
end
end Go.Proofs.Qxb6500606a
