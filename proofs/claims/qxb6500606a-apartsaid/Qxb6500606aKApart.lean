/-
  Apart: two stacks, two ghosts. (Seat 606 alone.)
-/
import Derived.Test.Qxb6500606aKUpTo
namespace Go.Proofs.Qxb6500606a
open Go.ChangeShapes Go.WideShapes Go.ChangeAt Go.RowKit
attribute [local go_sem] str_size str_app str_app1 str_1app str_toList str_get
set_option linter.unusedVariables false

/-- Two stacks and their ghosts, made since w0; they share nothing. -/
def Twin2 (w0 W : World) (x X : Nat) (vx : St) (y Y : Nat) (vy : St) : Prop := ∃ gx gy, Stk W x gx false vx ∧ Stk W y gy false vy ∧ GhostAt W X vx ∧ GhostAt W Y vy ∧ Okay vx ∧ Okay vy ∧ (w0.heap.size ≤ x ∧ w0.heap.size ≤ y ∧ w0.heap.size ≤ X ∧ w0.heap.size ≤ Y) ∧ (∀ b, gx = some b → w0.heap.size ≤ b) ∧ (∀ b, gy = some b → w0.heap.size ≤ b) ∧ (∀ b, own x gx b → ¬ own y gy b) ∧ X ≠ Y ∧ Below w0.heap.size w0 W
theorem Twin2.swap {w0 W : World} {x X y Y : Nat} {vx vy : St} (h : Twin2 w0 W x X vx y Y vy) : Twin2 w0 W y Y vy x X vx := by
  obtain ⟨gx, gy, h1, h2, h3, h4, h5, h6, ⟨a, b, c, d⟩, h8, h9, h10, h11, h12⟩ := h
  exact ⟨gy, gx, h2, h1, h4, h3, h6, h5, ⟨b, a, d, c⟩, h9, h8, fun b hb hb' => h10 b hb' hb, fun e => h11 e.symm, h12⟩
theorem Twin2.below {w0 W W' : World} {x X y Y : Nat} {vx vy : St} (h : Twin2 w0 W x X vx y Y vy) (hb : Below W.heap.size W W') : Twin2 w0 W' x X vx y Y vy := by
  obtain ⟨gx, gy, h1, h2, h3, h4, h5, h6, h7, h8, h9, h10, h11, h12⟩ := h
  exact ⟨gx, gy, h1.below hb, h2.below hb, h3.below hb, h4.below hb, h5, h6, h7, h8, h9, h10, h11, below_next h12 hb⟩
/-- A step on the first. -/
theorem Twin2.kept {w0 W : World} {x X y Y : Nat} {vx vy : St} (h : Twin2 w0 W x X vx y Y vy) (k a b c : Int) (S T : List UInt8) (hb : I64 b) (q : Bool) :
    Calls Try.prog 24 #[.pointer (some ⟨x, 0, none⟩), .pointer (some ⟨X, 0, none⟩), opV k a b c S T, .bool q] W fun e w' => e = .returned (.bool true) ∧ ∃ vs', Twin2 w0 w' x X vs' y Y vy := by
  obtain ⟨gx, gy, h1, h2, h3, h4, h5, h6, ⟨ha, hb', hc, hd⟩, h8, h9, h10, h11, h12⟩ := h
  refine (kept_calls h1 h3 h5 k a b c S T hb q).mono ?_
  rintro e w' ⟨rfl, g', m1, m2, m3, m4⟩
  have hkv : KeepsV W w' := by
    intro b c t ht e
    refine (m4.block b (lt_of_heap e) ?_).trans e
    rintro (hx | rfl)
    · obtain ⟨a1, cap1, xs1, q1⟩ := h1
      obtain ⟨c1, t1, e1, e2⟩ := own_tag q1 hx
      rw [e] at e1
      cases e1
      rcases e2 with rfl | rfl
      · exact absurd ht (by unfold still; decide)
      · exact absurd ht (by unfold still; decide)
    · obtain ⟨t0, t1, t2, t3, t4, hh, _⟩ := h3
      rw [hh] at e
      cases e
      exact absurd ht (by unfold still; decide)
  have hY : GhostAt w' Y vy := by
    obtain ⟨t0, t1, t2, t3, t4, hh, ht⟩ := id h4
    refine h4.same (m4.block Y (lt_of_heap hh) ?_)
    rintro (hx | e)
    · obtain ⟨a1, cap1, xs1, q1⟩ := h1
      obtain ⟨c1, t1, e1, e2⟩ := own_tag q1 hx
      rw [hh] at e1
      cases e1
      revert e2
      decide
    · exact h11 e.symm
  have hlt : ∀ b, own y gy b → b < W.heap.size := fun b hb => by
    obtain ⟨a1, cap1, xs1, q1⟩ := h2
    obtain ⟨c1, t1, e1, _⟩ := own_tag q1 hb
    exact lt_of_heap e1
  refine ⟨rfl, _, g', gy, m1, ?_, m3, hY, okay_do h1 h5 k a b S, h6, ⟨ha, hb', hc, hd⟩, fun b hb => ?_, h9, fun b hb hby => ?_, h11, Only.below_at h12 m4 ?_⟩
  · obtain ⟨ay, cy, xy, q2⟩ := h2
    refine ⟨ay, cy, xy, q2.only (fun b hb => ?_) hkv⟩
    refine m4.block b (hlt b hb) ?_
    rintro (hx | rfl)
    · exact h10 b hx hb
    · obtain ⟨t0, t1, t2, t3, t4, hh, _⟩ := h3
      obtain ⟨c1, t1, e1, e2⟩ := own_tag q2 hb
      rw [hh] at e1
      cases e1
      revert e2
      decide
  · rcases m2 b hb with h | h
    · exact h8 b h
    · exact Nat.le_trans h12.size h
  · rcases hb with rfl | hb
    · exact h10 _ (.inl rfl) hby
    · rcases m2 b hb with h | h
      · exact h10 b (.inr h) hby
      · have := hlt b hby; omega
  · rintro b ((rfl | hb) | rfl)
    · exact ha
    · exact h8 b hb
    · exact hc
theorem Twin2.looks {w0 W : World} {x X y Y : Nat} {vx vy : St} (h : Twin2 w0 W x X vx y Y vy) : (Calls Try.prog 25 #[.pointer (some ⟨y, 0, none⟩)] W fun e w' => e = .returned (.string (str (showF vy))) ∧ Below W.heap.size W w') ∧ (∀ w2, Below W.heap.size W w2 → Calls Try.prog 26 #[.pointer (some ⟨Y, 0, none⟩)] w2 fun e w' => e = .returned (.string (str (showF vy))) ∧ Below w2.heap.size w2 w') := by
  obtain ⟨gx, gy, h1, h2, h3, h4, h5, h6, _⟩ := h
  exact ⟨stackShow_calls h2 h6, fun w2 hb2 => shown_calls (h4.below hb2) h6⟩
set_option maxHeartbeats 1000000 in
theorem Twin2.beside {w0 W : World} {x X y Y : Nat} {vx vy : St} (h : Twin2 w0 W x X vx y Y vy) (k a b c : Int) (S T : List UInt8) (hb : I64 b) :
    Calls Try.prog 21 #[.pointer (some ⟨x, 0, none⟩), .pointer (some ⟨X, 0, none⟩), .pointer (some ⟨y, 0, none⟩), .pointer (some ⟨Y, 0, none⟩), opV k a b c S T] W fun e w' => e = .returned (.bool true) ∧ ∃ vs', Twin2 w0 w' x X vs' y Y vy := by
  have hA : Below W.heap.size W (W.alloc (.cells (opC k a b c S T) 30)) := below_alloc (Below.refl _ _)
  have hk := hide ((h.below hA).kept k a b c S T hb false)
  unfold opC opV at hk
  unfold opV
  clear h hA
  go_enter Try.func21, Try.ntmps21
  go_wp2_with (first | (go_at_call 24; refine hk.out.mono ?_; rintro e w1 ⟨rfl, vs1, ht1⟩; have hsw := hide ht1.looks.1; have hgh := hide ht1.looks.2; generalize showF vy = sf at *; replace ht1 := hide ht1) | (go_at_call 25; refine hsw.out.mono ?_; rintro e w2 ⟨rfl, hb2⟩) | (go_at_call 26; refine (hgh.out _ hb2).mono ?_; rintro e w3 ⟨rfl, hb3⟩))
  go_ret
  exact ⟨by simp, _, (ht1.out.below hb2).below hb3⟩
theorem twin2_new (w : World) : Twin2 w ((((w.alloc (.cells #[.slice none 0 0, .bool false] 46)).alloc (.cells #[.slice none 0 0, .bool false] 46)).alloc (.cells #[.int .i64 0, .string { data := #[] }, .string { data := #[] }, .string { data := #[] }, .string { data := #[] }, .string { data := #[] }] 38)).alloc (.cells #[.int .i64 0, .string { data := #[] }, .string { data := #[] }, .string { data := #[] }, .string { data := #[] }, .string { data := #[] }] 38)) w.heap.size (w.heap.size + 1 + 1) [] (w.heap.size + 1) (w.heap.size + 1 + 1 + 1) [] := by
  refine ⟨none, none, ?_, ?_, ?_, ?_, ⟨by simp, by simp⟩, ⟨by simp, by simp⟩, ⟨Nat.le_refl _, by omega, by omega, by omega⟩, (fun b hb => by cases hb), (fun b hb => by cases hb), ?_, by omega, below_alloc (below_alloc (below_alloc (below_alloc (Below.refl _ _))))⟩
  · exact Stk.below ⟨_, _, _, new_is w⟩ (below_alloc (below_alloc (below_alloc (Below.refl _ _))))
  · have := new_is (w.alloc (.cells #[.slice none 0 0, .bool false] 46))
    simp only [World.size_alloc] at this
    exact Stk.below ⟨_, _, _, this⟩ (below_alloc (below_alloc (Below.refl _ _)))
  · refine ⟨[], [], [], [], [], ?_, fun i v hv => by simp at hv⟩
    have := heap_alloc_new ((w.alloc (.cells #[.slice none 0 0, .bool false] 46)).alloc (.cells #[.slice none 0 0, .bool false] 46)) (.cells #[.int .i64 0, .string { data := #[] }, .string { data := #[] }, .string { data := #[] }, .string { data := #[] }, .string { data := #[] }] 38)
    simp only [World.size_alloc] at this
    exact heap_before this
  · refine ⟨[], [], [], [], [], ?_, fun i v hv => by simp at hv⟩
    have := heap_alloc_new (((w.alloc (.cells #[.slice none 0 0, .bool false] 46)).alloc (.cells #[.slice none 0 0, .bool false] 46)).alloc (.cells #[.int .i64 0, .string { data := #[] }, .string { data := #[] }, .string { data := #[] }, .string { data := #[] }, .string { data := #[] }] 38)) (.cells #[.int .i64 0, .string { data := #[] }, .string { data := #[] }, .string { data := #[] }, .string { data := #[] }, .string { data := #[] }] 38)
    simp only [World.size_alloc] at this
    exact this
  · rintro b (rfl | hb) (h | hb')
    · omega
    · cases hb'
    · cases hb
    · cases hb
set_option maxRecDepth 100000 in
set_option maxHeartbeats 1000000 in
theorem toApart {w : World} {ad : Option Addr} {n cap : Nat} (h : ScriptAt w ad n) :
    Calls Try.prog 15 #[.slice ad n cap] w fun e w' => e = .returned (.int .i64 (-1)) ∧ Below w.heap.size w w' := by
  have hnw := hide new_calls
  have htw := twin2_new w
  have HSC := hide h
  have hn := h.1
  clear h
  go_enter Try.func15, Try.ntmps15
  go_wp2_with (go_at_call 20; refine (hnw.out _).mono ?_; rintro e W4 ⟨rfl, hw⟩; subst hw)
  go_loopw [7] (fun x W => ∃ (j : Nat) (vx vy : St), x = .int .i64 j ∧ j ≤ n ∧ Twin2 w W w.heap.size (w.heap.size + 1 + 1) vx (w.heap.size + 1) (w.heap.size + 1 + 1 + 1) vy) (fun x W => n - (intOf x).toNat)
  case atStart => exact ⟨0, [], [], rfl, Nat.zero_le _, htw⟩
  case round =>
    obtain ⟨j, vx, vy, rfl, hj, ht⟩ := hrel
    have HB : Hid (Below w.heap.size w wr) := by obtain ⟨_, _, _, _, _, _, _, _, _, _, _, _, _, h⟩ := ht; exact h
    by_cases hjl : j < n
    · have hd1 : decide ((j : Int) < n) = true := decide_eq_true (by omega)
      by_cases hjm : j < 4398046511104
      · have hd2 : decide ((j : Int) < 4398046511104) = true := decide_eq_true (by omega)
        obtain ⟨B, o, k, a, b, c, S, T, rfl, hb, hBl, hR⟩ := (HSC.out.below HB.out).2 j hjl
        have hbl : Below wr.heap.size wr (wr.alloc (.cells (opC k a b c S T) 30)) := below_alloc (Below.refl _ _)
        have hk1 := hide ((ht.below hbl).beside k a b c S T hb)
        have hk2 := hide ((ht.below hbl).swap.beside k a b c S T hb)
        have HRL : Hid (wr.rangeAt B (o + j * 6) [.int .i64 k, .int .i64 a, .int .i64 b, .int .i64 c, .string (str S), .string (str T)]) := hR
        clear hR
        unfold opV opC at hk1 hk2
        clear ht htw
        go_upto_region 9 with (refine wpList_load_mid rfl 30 _ rfl B (o + j * 6) rfl [.int .i64 k, .int .i64 a, .int .i64 b, .int .i64 c, .string (str S), .string (str T)] _ HRL.out Try.underlying30 rfl (infoOp k a b c S T) ?_)
        obtain ⟨z, hz⟩ : ∃ z, bits BinOp.and IntKind.i64 c 1 = z := ⟨_, rfl⟩
        go_upto_if 32 with fail
        clear hz
        generalize (z != 0) = zb
        cases zb with
        | false =>
          go_wp2_with (go_at_call 21; refine hk1.out.mono ?_; rintro e w2 ⟨rfl, vs2, ht2⟩)
          go_roundw
          case rel => exact ⟨j + 1, vs2, vy, by go_num, by omega, ht2⟩
          case measure => simp [intOf]; omega
        | true =>
          go_wp2_with (go_at_call 21; refine hk2.out.mono ?_; rintro e w2 ⟨rfl, vs2, ht2⟩)
          go_roundw
          case rel => exact ⟨j + 1, vx, vs2, by go_num, by omega, ht2.swap⟩
          case measure => simp [intOf]; omega
      · have hd2 : decide ((j : Int) < 4398046511104) = false := decide_eq_false (by omega)
        go_wp2
        go_ret
        exact ⟨rfl, HB.out⟩
    · have hd1 : decide ((j : Int) < n) = false := decide_eq_false (by omega)
      go_wp2
      go_ret
      exact ⟨rfl, HB.out⟩
theorem walkApart {w : World} {ad : Option Addr} {n cap : Nat} (h : ScriptAt w ad n) :
    Calls Try.prog 5 #[.slice ad n cap] w fun e w' => e = .returned (.bool true) ∧ Below w.heap.size w w' := by
  have hk := hide (toApart (cap := cap) h)
  clear h
  go_enter Try.func5, Try.ntmps5
  go_wp2_with (go_at_call 15; refine hk.out.mono ?_; rintro e w1 ⟨rfl, hb1⟩)
  go_ret
  exact ⟨rfl, hb1⟩
end Go.Proofs.Qxb6500606a
