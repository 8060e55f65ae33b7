/-
  Refines: both sides, step by step. (Seat 606 alone.)
-/
import Derived.Test.Qxb6500606aMDo
import Derived.Test.Qxb6500606aKUpTo
namespace Go.Proofs.Qxb6500606a
open Go.ChangeShapes Go.WideShapes Go.ChangeAt Go.RowKit
attribute [local go_sem] str_size str_app str_app1 str_1app str_toList str_get
set_option linter.unusedVariables false

/-- Answers that were laid down lie as they lay. -/
def KeepA (W w' : World) : Prop := ∀ (b : Nat) (c : Array Value), W.heap[b]? = some (.cells c 27) → w'.heap[b]? = some (.cells c 27)
/-- The real stack stands for vs, the model's for vm; both were made since w0. -/
def Both (w0 W : World) (s m : Nat) (vs vm : St) : Prop := ∃ g gm, Stk W s g false vs ∧ MStk W m gm vm ∧ Okay vs ∧ Okay vm ∧ (∀ v ∈ vm, Wf v) ∧ w0.heap.size ≤ s ∧ w0.heap.size ≤ m ∧ (∀ b, g = some b → w0.heap.size ≤ b) ∧ (∀ b, gm = some b → w0.heap.size ≤ b) ∧ Below w0.heap.size w0 W
theorem Both.below {w0 W W' : World} {s m : Nat} {vs vm : St} (h : Both w0 W s m vs vm) (hb : Below W.heap.size W W') : Both w0 W' s m vs vm := by
  obtain ⟨g, gm, h1, h2, h3, h4, h5, h6, h7, h8, h9, h10⟩ := h
  exact ⟨g, gm, h1.below hb, h2.below hb, h3, h4, h5, h6, h7, h8, h9, below_next h10 hb⟩
theorem Both.base {w0 W : World} {s m : Nat} {vs vm : St} (h : Both w0 W s m vs vm) : Below w0.heap.size w0 W := by
  obtain ⟨_, _, _, _, _, _, _, _, _, _, _, h⟩ := h
  exact h
theorem Both.do {w0 W : World} {s m : Nat} {vs vm : St} (h : Both w0 W s m vs vm) (k a b c : Int) (S T : List UInt8) (hb : I64 b) :
    Calls Try.prog 29 #[.pointer (some ⟨s, 0, none⟩), opV k a b c S T] W fun e w' => e = .returned (doF k a b S vs).1.v ∧ Both w0 w' s m (doF k a b S vs).2 vm ∧ KeepA W w' := by
  obtain ⟨g, gm, h1, h2, h3, h4, h5, h6, h7, h8, h9, h10⟩ := h
  refine (do_calls h1 h3 k a b c S T hb (fun _ => extra_all a)).mono ?_
  rintro e w' ⟨rfl, hm⟩
  have hmk : MStk w' m gm vm := h2.keepM fun b c t ht e => hm.keepsBlock h1 e (by rcases ht with rfl | rfl <;> decide) (by rcases ht with rfl | rfl <;> decide)
  have hka : KeepA W w' := fun b c e => hm.keepsBlock h1 e (by decide) (by decide)
  obtain ⟨g', m1, m2, m3⟩ := hm
  refine ⟨rfl, ⟨g', gm, m1, hmk, okay_do h1 h3 k a b S, h4, h5, h6, h7, fun b hb => ?_, h9, Only.below_at h10 m3 ?_⟩, hka⟩
  · rcases m2 b hb with h | h
    · exact h8 b h
    · exact Nat.le_trans h10.size h
  · rintro b (rfl | hb)
    · exact h6
    · exact h8 b hb
theorem Both.doM {w0 W : World} {s m : Nat} {vm : St} (k a b c : Int) (S T : List UInt8) (h : Both w0 W s m (doF k a b S vm).2 vm) (hb : I64 b) :
    Calls Try.prog 30 #[.pointer (some ⟨m, 0, none⟩), opV k a b c S T] W fun e w' => e = .returned (doF k a b S vm).1.v ∧ Both w0 w' s m (doF k a b S vm).2 (doF k a b S vm).2 ∧ KeepA W w' := by
  obtain ⟨g, gm, h1, h2, h3, h4, h5, h6, h7, h8, h9, h10⟩ := h
  refine (doM_calls h2 h4 h5 k a b c S T hb).mono ?_
  rintro e w' ⟨rfl, hm⟩
  have hka : KeepA W w' := fun b c e => hm.keepsBlock h2 e (by decide) (by decide)
  have hkr : ∀ (b : Nat) (c : Array Value) (t : TypeId), t ≠ 63 → t ≠ 79 → W.heap[b]? = some (.cells c t) → w'.heap[b]? = some (.cells c t) := fun b c t n1 n2 e => hm.keepsBlock h2 e n1 n2
  have hst : Stk w' s g false (doF k a b S vm).2 := by
    obtain ⟨a1, cap1, xs1, q1⟩ := h1
    refine ⟨a1, cap1, xs1, q1.only (fun b hb => ?_) ?_⟩
    · obtain ⟨c, t, e, ht⟩ := own_tag q1 hb
      rw [e]
      exact hkr b c t (by rcases ht with rfl | rfl <;> decide) (by rcases ht with rfl | rfl <;> decide) e
    · intro b c t ht e
      exact hkr b c t (by intro ht'; rw [ht'] at ht; exact absurd ht (by unfold still; decide)) (by intro ht'; rw [ht'] at ht; exact absurd ht (by unfold still; decide)) e
  obtain ⟨g', m1, m2, m3⟩ := hm
  refine ⟨rfl, ⟨g, g', hst, m1, h3, h3, stk_wf h1, h6, h7, h8, fun b hb => ?_, Only.below_at h10 m3 ?_⟩, hka⟩
  · rcases m2 b hb with h | h
    · exact h9 b h
    · exact Nat.le_trans h10.size h
  · rintro b (rfl | hb)
    · exact h7
    · exact h9 b hb
theorem Both.looks {w0 W : World} {s m : Nat} {vs : St} (h : Both w0 W s m vs vs) : (Calls Try.prog 25 #[.pointer (some ⟨s, 0, none⟩)] W fun e w' => e = .returned (.string (str (showF vs))) ∧ Below W.heap.size W w') ∧ (Calls Try.prog 34 #[.pointer (some ⟨m, 0, none⟩)] W fun e w' => e = .returned (.string (str (showF vs))) ∧ Below W.heap.size W w') ∧ (Calls Try.prog 35 #[.pointer (some ⟨s, 0, none⟩)] W fun e w' => e = .returned (.bool true) ∧ Below W.heap.size W w') ∧ (Calls Try.prog 36 #[.pointer (some ⟨m, 0, none⟩)] W fun e w' => e = .returned (.bool true) ∧ Below W.heap.size W w') := by
  obtain ⟨g, gm, h1, h2, h3, h4, h5, _⟩ := h
  exact ⟨stackShow_calls h1 h3, mShow h2 h4 h5, check_calls h1 h3, mCheck h2 h4 h5⟩
set_option maxHeartbeats 1000000 in
theorem Both.seen {w0 W : World} {s m : Nat} {vs : St} (h : Both w0 W s m vs vs) : Calls Try.prog 28 #[.pointer (some ⟨s, 0, none⟩), .pointer (some ⟨m, 0, none⟩)] W fun e w' => e = .returned (.bool true) ∧ Below W.heap.size W w' := by
  have HL : Hid (∀ W', Below W.heap.size W W' → (Calls Try.prog 25 #[.pointer (some ⟨s, 0, none⟩)] W' fun e w' => e = .returned (.string (str (showF vs))) ∧ Below W'.heap.size W' w') ∧ (Calls Try.prog 34 #[.pointer (some ⟨m, 0, none⟩)] W' fun e w' => e = .returned (.string (str (showF vs))) ∧ Below W'.heap.size W' w') ∧ (Calls Try.prog 35 #[.pointer (some ⟨s, 0, none⟩)] W' fun e w' => e = .returned (.bool true) ∧ Below W'.heap.size W' w') ∧ (Calls Try.prog 36 #[.pointer (some ⟨m, 0, none⟩)] W' fun e w' => e = .returned (.bool true) ∧ Below W'.heap.size W' w')) := fun W' hb => (h.below hb).looks
  clear h
  generalize showF vs = sf at *
  go_enter Try.func28, Try.ntmps28
  go_wp2_with (first | (go_at_call 25; refine (HL.out _ (Below.refl _ _)).1.mono ?_; rintro e w1 ⟨rfl, hb1⟩) | (go_at_call 34; refine (HL.out _ hb1).2.1.mono ?_; rintro e w2 ⟨rfl, hb2⟩; have hc2 := below_next hb1 hb2) | (go_at_call 35; refine (HL.out _ hc2).2.2.1.mono ?_; rintro e w3 ⟨rfl, hb3⟩; have hc3 := below_next hc2 hb3) | (go_at_call 36; refine (HL.out _ hc3).2.2.2.mono ?_; rintro e w4 ⟨rfl, hb4⟩; have hc4 := below_next hc3 hb4))
  go_ret
  exact ⟨by simp, hc4⟩
theorem newM_calls (w : World) : Calls Try.prog 27 #[] w fun e w' => e = .returned (.pointer (some ⟨w.heap.size, 0, none⟩)) ∧ w' = w.alloc (.cells #[.slice none 0 0] 63) := by
  go_enter Try.func27, Try.ntmps27
  go_wp2
  go_ret
  exact ⟨rfl, rfl⟩
theorem both_new (w : World) : Both w ((w.alloc (.cells #[.slice none 0 0, .bool false] 46)).alloc (.cells #[.slice none 0 0] 63)) w.heap.size (w.heap.size + 1) [] [] := by
  refine ⟨none, none, Stk.below ⟨_, _, _, new_is w⟩ (below_alloc (Below.refl _ _)), ⟨.slice none 0 0, [], heap_alloc2_new w _ _, rfl, ⟨World.ownsRow_nil _ _ _ _, rfl, (fun c hc => by cases hc), fun i e cs he _ => by simp at he⟩⟩, ⟨by simp, by simp⟩, ⟨by simp, by simp⟩, (fun v hv => by cases hv), Nat.le_refl _, by omega, (fun b hb => by cases hb), (fun b hb => by cases hb), below_alloc (below_alloc (Below.refl _ _))⟩
end Go.Proofs.Qxb6500606a
