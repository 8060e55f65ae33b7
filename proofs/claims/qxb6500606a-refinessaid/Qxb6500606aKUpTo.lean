/-
  Keeps: a script; KeptUpTo. (Seat 606 alone.)
-/
import Derived.Test.Qxb6500606aKKept2
namespace Go.Proofs.Qxb6500606a
open Go.ChangeShapes Go.WideShapes Go.ChangeAt Go.RowKit
attribute [local go_sem] str_size str_app str_app1 str_1app str_toList str_get
set_option linter.unusedVariables false

/-- A slice of steps. -/
def ScriptAt (w : World) (ad : Option Addr) (n : Nat) : Prop := n ≤ 9223372036854775807 ∧ ∀ i, i < n → ∃ (B o : Nat) (k a b c : Int) (S T : List UInt8), ad = some ⟨B, o, none⟩ ∧ I64 b ∧ B < w.heap.size ∧ w.rangeAt B (o + i * 6) (opC k a b c S T).toList
theorem ScriptAt.below {w w' : World} {ad : Option Addr} {n : Nat} (h : ScriptAt w ad n) (hb : Below w.heap.size w w') : ScriptAt w' ad n := by
  refine ⟨h.1, fun i hi => ?_⟩
  obtain ⟨B, o, k, a, b, c, S, T, h1, h2, h3, h4⟩ := h.2 i hi
  exact ⟨B, o, k, a, b, c, S, T, h1, h2, Nat.lt_of_lt_of_le h3 hb.size, fun j v hv => (hb.cell (p := ⟨B, o + i * 6 + j, none⟩) h3).trans (h4 j v hv)⟩
theorem infoOp (k a b c : Int) (S T : List UInt8) : (Try.prog.info? 30).map (·.size) = some (opC k a b c S T).toList.length := by show _ = some 6; kernel_rfl
/-- The real stack and its ghost, made since w0. -/
def Twin (w0 W : World) (s G : Nat) (vs : St) : Prop := ∃ g, Stk W s g false vs ∧ GhostAt W G vs ∧ Okay vs ∧ w0.heap.size ≤ s ∧ w0.heap.size ≤ G ∧ (∀ b, g = some b → w0.heap.size ≤ b) ∧ Below w0.heap.size w0 W
theorem Twin.kept {w0 W : World} {s G : Nat} {vs : St} (h : Twin w0 W s G vs) (k a b c : Int) (S T : List UInt8) (hb : I64 b) (q : Bool) :
    Calls Try.prog 24 #[.pointer (some ⟨s, 0, none⟩), .pointer (some ⟨G, 0, none⟩), opV k a b c S T, .bool q] W fun e w' => e = .returned (.bool true) ∧ ∃ vs', Twin w0 w' s G vs' := by
  obtain ⟨g, h1, h2, h3, h4, h5, h6, h7⟩ := h
  refine (kept_calls h1 h2 h3 k a b c S T hb q).mono ?_
  rintro e w' ⟨rfl, g', m1, m2, m3, m4⟩
  refine ⟨rfl, _, g', m1, m3, okay_do h1 h3 k a b S, h4, h5, fun b hb => ?_, Only.below_at h7 m4 ?_⟩
  · rcases m2 b hb with h | h
    · exact h6 b h
    · exact Nat.le_trans h7.size h
  · rintro b ((rfl | hb) | rfl)
    · exact h4
    · exact h6 b hb
    · exact h5
theorem twin_new (w : World) : Twin w ((w.alloc (.cells #[.slice none 0 0, .bool false] 46)).alloc (.cells #[.int .i64 0, .string { data := #[] }, .string { data := #[] }, .string { data := #[] }, .string { data := #[] }, .string { data := #[] }] 38)) w.heap.size (w.heap.size + 1) [] := by
  have hb : Below (w.alloc (.cells #[.slice none 0 0, .bool false] 46)).heap.size (w.alloc (.cells #[.slice none 0 0, .bool false] 46)) ((w.alloc (.cells #[.slice none 0 0, .bool false] 46)).alloc (.cells #[.int .i64 0, .string { data := #[] }, .string { data := #[] }, .string { data := #[] }, .string { data := #[] }, .string { data := #[] }] 38)) := below_alloc (Below.refl _ _)
  refine ⟨none, Stk.below ⟨_, _, _, new_is w⟩ hb, ⟨[], [], [], [], [], heap_alloc2_new w _ _, fun i v hv => by simp at hv⟩, ⟨by simp, by simp⟩, Nat.le_refl _, by omega, (fun b hb => by cases hb), below_alloc (below_alloc (Below.refl _ _))⟩
set_option maxHeartbeats 1000000 in
theorem keptUpTo_calls {w : World} {ad : Option Addr} {n cap : Nat} (h : ScriptAt w ad n) (q : Bool) :
    Calls Try.prog 19 #[.slice ad n cap, .bool q] w fun e w' => e = .returned (.int .i64 (-1)) ∧ Below w.heap.size w w' := by
  have hnw := hide (new_calls w)
  have htw := twin_new w
  have hk0 := hide (htw.kept 0 0 0 0 [] [] (by constructor <;> decide) q)
  have HSC := hide h
  have hn := h.1
  clear h htw
  unfold opV at hk0
  go_enter Try.func19, Try.ntmps19
  go_wp2_with (first | (go_at_call 20; refine hnw.out.mono ?_; rintro e W4 ⟨rfl, hw⟩; subst hw) | (go_at_call 24; refine hk0.out.mono ?_; rintro e w1 ⟨rfl, vs, htw⟩))
  go_loopw [7] (fun x W => ∃ (j : Nat) (vs : St), x = .int .i64 j ∧ j ≤ n ∧ Twin w W w.heap.size (w.heap.size + 1) vs) (fun x W => n - (intOf x).toNat)
  case atStart => exact ⟨0, vs, rfl, Nat.zero_le _, htw⟩
  case round =>
    obtain ⟨j, vs, rfl, hj, ht⟩ := hrel
    have HB : Hid (Below w.heap.size w wr) := by obtain ⟨_, _, _, _, _, _, _, h⟩ := ht; exact h
    by_cases hjl : j < n
    · have hd1 : decide ((j : Int) < n) = true := decide_eq_true (by omega)
      by_cases hjm : j < 4398046511104
      · have hd2 : decide ((j : Int) < 4398046511104) = true := decide_eq_true (by omega)
        obtain ⟨B, o, k, a, b, c, S, T, rfl, hb, hBl, hR⟩ := (HSC.out.below HB.out).2 j hjl
        have hk := hide (ht.kept k a b c S T hb q)
        replace hR := hide hR
        unfold opV at hk
        clear ht
        go_wp2_with (first | (refine wpList_load_mid rfl 30 _ rfl B (o + j * 6) rfl (opC k a b c S T).toList _ hR.out Try.underlying30 rfl (infoOp k a b c S T) ?_) | (go_at_call 24; refine hk.out.mono ?_; rintro e w2 ⟨rfl, vs2, ht2⟩))
        go_roundw
        case rel => exact ⟨j + 1, vs2, by go_num, by omega, ht2⟩
        case measure => simp [intOf]; omega
      · have hd2 : decide ((j : Int) < 4398046511104) = false := decide_eq_false (by omega)
        go_wp2
        go_ret
        exact ⟨rfl, HB.out⟩
    · have hd1 : decide ((j : Int) < n) = false := decide_eq_false (by omega)
      go_wp2
      go_ret
      exact ⟨rfl, HB.out⟩
theorem toKeeps {w : World} {ad : Option Addr} {n cap : Nat} (h : ScriptAt w ad n) :
    Calls Try.prog 13 #[.slice ad n cap] w fun e w' => e = .returned (.int .i64 (-1)) ∧ Below w.heap.size w w' := by
  have hk := hide (keptUpTo_calls (cap := cap) h false)
  clear h
  go_enter Try.func13, Try.ntmps13
  go_wp2_with (go_at_call 19; refine hk.out.mono ?_; rintro e w1 ⟨rfl, hb1⟩)
  go_ret
  exact ⟨rfl, hb1⟩
theorem walkKeeps {w : World} {ad : Option Addr} {n cap : Nat} (h : ScriptAt w ad n) :
    Calls Try.prog 3 #[.slice ad n cap] w fun e w' => e = .returned (.bool true) ∧ Below w.heap.size w w' := by
  have hk := hide (toKeeps (cap := cap) h)
  clear h
  go_enter Try.func3, Try.ntmps3
  go_wp2_with (go_at_call 13; refine hk.out.mono ?_; rintro e w1 ⟨rfl, hb1⟩)
  go_ret
  exact ⟨rfl, hb1⟩
theorem toKeepsQuiet {w : World} {ad : Option Addr} {n cap : Nat} (h : ScriptAt w ad n) :
    Calls Try.prog 14 #[.slice ad n cap] w fun e w' => e = .returned (.int .i64 (-1)) ∧ Below w.heap.size w w' := by
  have hk := hide (keptUpTo_calls (cap := cap) h true)
  clear h
  go_enter Try.func14, Try.ntmps14
  go_wp2_with (go_at_call 19; refine hk.out.mono ?_; rintro e w1 ⟨rfl, hb1⟩)
  go_ret
  exact ⟨rfl, hb1⟩
theorem walkKeepsQuiet {w : World} {ad : Option Addr} {n cap : Nat} (h : ScriptAt w ad n) :
    Calls Try.prog 4 #[.slice ad n cap] w fun e w' => e = .returned (.bool true) ∧ Below w.heap.size w w' := by
  have hk := hide (toKeepsQuiet (cap := cap) h)
  clear h
  go_enter Try.func4, Try.ntmps4
  go_wp2_with (go_at_call 14; refine hk.out.mono ?_; rintro e w1 ⟨rfl, hb1⟩)
  go_ret
  exact ⟨rfl, hb1⟩
end Go.Proofs.Qxb6500606a
