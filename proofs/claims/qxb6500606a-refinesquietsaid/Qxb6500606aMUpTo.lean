/-
  Refines: walk, and the two laws. (Seat 606 alone.)
-/
import Derived.Test.Qxb6500606aMWalk
namespace Go.Proofs.Qxb6500606a
open Go.ChangeShapes Go.WideShapes Go.ChangeAt Go.RowKit
attribute [local go_sem] str_size str_app str_app1 str_1app str_toList str_get
set_option linter.unusedVariables false

set_option maxRecDepth 100000 in
set_option maxHeartbeats 4000000 in
theorem walk_calls {w : World} {ad : Option Addr} {n cap : Nat} (h : ScriptAt w ad n) (q : Bool) :
    Calls Try.prog 22 #[.slice ad n cap, .bool q] w fun e w' => ∃ j : Nat, e = .returned (.tuple #[.int .i64 (-1), .int .i64 j]) ∧ Below w.heap.size w w' := by
  have hnw := hide (new_calls w)
  have hnm := hide (newM_calls (w.alloc (.cells #[.slice none 0 0, .bool false] 46)))
  have hbn := both_new w
  have hse := hide hbn.seen
  have HSC := hide h
  have hn := h.1
  have HBN := hide hbn
  clear h hbn
  simp only [World.size_alloc] at hnm
  go_enter Try.func22, Try.ntmps22
  go_upto_if 14 with (first | (go_at_call 20; refine hnw.out.mono ?_; rintro e W4 ⟨rfl, hw⟩; subst hw) | (go_at_call 27; refine hnm.out.mono ?_; rintro e W4 ⟨rfl, hw⟩; subst hw))
  go_cut [] from 13 to 18 (fun wx => Both w wx w.heap.size (w.heap.size + 1) [] [])
  case first =>
    cases q with
    | true =>
      go_wp2_with fail
      go_meet
      exact HBN.out
    | false =>
      go_wp2_with (go_at_call 28; refine hse.out.mono ?_; rintro e w1 ⟨rfl, hb1⟩)
      go_meet
      exact HBN.out.below hb1
  case rest =>
  have hbc := hcut
  clear hnw hnm hse HBN hcut
  go_wp2_with fail
  go_loopg [8] n (fun k x W => ∃ (j : Nat) (vs : St), x = .int .i64 j ∧ j ≤ n ∧ k = n - j ∧ Both w W w.heap.size (w.heap.size + 1) vs vs)
  case atStart => exact ⟨0, [], rfl, Nat.zero_le _, by omega, hbc⟩
  case round =>
    obtain ⟨j, vs, rfl, hj, hgk, hB⟩ := hrel
    have HB := hide hB.base
    by_cases hjl : j < n
    · have hd1 : decide ((j : Int) < n) = true := decide_eq_true (by omega)
      by_cases hjm : j < 4398046511104
      · have hd2 : decide ((j : Int) < 4398046511104) = true := decide_eq_true (by omega)
        obtain ⟨B, o, k, a, b, c, S, T, rfl, hb, hBl, hR⟩ := HSC.out.2 j hjl
        have HRR : Hid (∀ W, Below w.heap.size w W → W.rangeAt B (o + j * 6) [.int .i64 k, .int .i64 a, .int .i64 b, .int .i64 c, .string (str S), .string (str T)]) := fun W hW => range_below hR hBl hW
        have hR1 := hide (HRR.out wr HB.out)
        have hdo := hB.do k a b c S T hb
        have HDM : Hid (∀ W, Both w W w.heap.size (w.heap.size + 1) (doF k a b S vs).2 vs → Calls Try.prog 30 #[.pointer (some ⟨w.heap.size + 1, 0, none⟩), opV k a b c S T] W fun e w' => e = .returned (doF k a b S vs).1.v ∧ Both w w' w.heap.size (w.heap.size + 1) (doF k a b S vs).2 (doF k a b S vs).2 ∧ KeepA W w') := fun W hW => hW.doM k a b c S T hb
        unfold opV Ans.v ansV ansC at hdo HDM
        replace hdo := hide hdo
        have HSE : Hid (∀ W us, Both w W w.heap.size (w.heap.size + 1) us us → Calls Try.prog 28 #[.pointer (some ⟨w.heap.size, 0, none⟩), .pointer (some ⟨w.heap.size + 1, 0, none⟩)] W fun e w' => e = .returned (.bool true) ∧ Below W.heap.size W w') := fun W us hW => hW.seen
        clear hB hR hbc
        generalize doF k a b S vs = R at *
        go_upto_region 9 with (first | (refine wpList_load_mid rfl 30 _ rfl B (o + j * 6) rfl [.int .i64 k, .int .i64 a, .int .i64 b, .int .i64 c, .string (str S), .string (str T)] _ hR1.out Try.underlying30 rfl (infoOp k a b c S T) ?_) | (go_at_call 29; refine hdo.out.mono ?_; rintro e w1 ⟨rfl, hB1, hk1⟩))
        have hbA : Below w1.heap.size w1 (w1.alloc (.cells #[.int .i64 R.1.e, .int .i64 R.1.n, .int .i64 0, .string (str R.1.s)] 27)) := below_alloc (Below.refl _ _)
        have hB2 := hB1.below hbA
        have hR2 := hide (HRR.out _ hB2.base)
        have hdm := hide (HDM.out _ hB2)
        have HRA : Hid ((w1.alloc (.cells #[.int .i64 R.1.e, .int .i64 R.1.n, .int .i64 0, .string (str R.1.s)] 27)).heap[w1.heap.size]? = some (.cells #[.int .i64 R.1.e, .int .i64 R.1.n, .int .i64 0, .string (str R.1.s)] 27)) := heap_alloc_new _ _
        clear hB1 hk1 hbA hB2 hR1 hdo HDM
        go_upto_region 10 with (first | (refine wpList_load_mid rfl 30 _ rfl B (o + j * 6) rfl [.int .i64 k, .int .i64 a, .int .i64 b, .int .i64 c, .string (str S), .string (str T)] _ hR2.out Try.underlying30 rfl (infoOp k a b c S T) ?_) | (go_at_call 30; refine hdm.out.mono ?_; rintro e w3 ⟨rfl, hB3, hk3⟩))
        have hbC : Below w3.heap.size w3 (w3.alloc (.cells #[.int .i64 R.1.e, .int .i64 R.1.n, .int .i64 0, .string (str R.1.s)] 27)) := below_alloc (Below.refl _ _)
        have hB4 := hB3.below hbC
        have F1 := hide (heap_before (o := .cells #[.int .i64 R.1.e, .int .i64 R.1.n, .int .i64 0, .string (str R.1.s)] 27) (hk3 _ _ HRA.out))
        have hse := hide (HSE.out _ _ hB4)
        have HB4 := hide hB4
        clear hB3 hk3 hbC hB4 hR2 hdm HRA HSE
        cases q with
        | true =>
          go_wp2_with (first | (refine wpList_load_row rfl 27 _ rfl w1.heap.size rfl _ _ _ _ F1.out Try.underlying27 rfl info24 ?_) | (refine wpList_load_row rfl 27 _ rfl w3.heap.size rfl _ _ _ _ (heap_alloc_new _ _) Try.underlying27 rfl info24 ?_))
          go_roundg (n - (j + 1))
          case measure => omega
          case rel => exact ⟨j + 1, R.2, by go_num, by omega, rfl, HB4.out⟩
        | false =>
          go_wp2_with (first | (refine wpList_load_row rfl 27 _ rfl w1.heap.size rfl _ _ _ _ F1.out Try.underlying27 rfl info24 ?_) | (refine wpList_load_row rfl 27 _ rfl w3.heap.size rfl _ _ _ _ (heap_alloc_new _ _) Try.underlying27 rfl info24 ?_) | (go_at_call 28; refine hse.out.mono ?_; rintro e w5 ⟨rfl, hb5⟩))
          go_roundg (n - (j + 1))
          case measure => omega
          case rel => exact ⟨j + 1, R.2, by go_num, by omega, rfl, HB4.out.below hb5⟩
      · have hd2 : decide ((j : Int) < 4398046511104) = false := decide_eq_false (by omega)
        clear hB hbc
        go_wp2
        go_ret2
        exact ⟨j, rfl, HB.out⟩
    · have hd1 : decide ((j : Int) < n) = false := decide_eq_false (by omega)
      clear hB hbc
      go_wp2
      go_ret2
      exact ⟨j, rfl, HB.out⟩
theorem toRefines {w : World} {ad : Option Addr} {n cap : Nat} (h : ScriptAt w ad n) :
    Calls Try.prog 16 #[.slice ad n cap] w fun e w' => e = .returned (.int .i64 (-1)) ∧ Below w.heap.size w w' := by
  have hk := hide (walk_calls (cap := cap) h false)
  clear h
  go_enter Try.func16, Try.ntmps16
  go_wp2_with (go_at_call 22; refine hk.out.mono ?_; rintro e w1 ⟨j, rfl, hb1⟩)
  go_ret
  exact ⟨rfl, hb1⟩
theorem walkRefines {w : World} {ad : Option Addr} {n cap : Nat} (h : ScriptAt w ad n) :
    Calls Try.prog 6 #[.slice ad n cap] w fun e w' => e = .returned (.bool true) ∧ Below w.heap.size w w' := by
  have hk := hide (toRefines (cap := cap) h)
  clear h
  go_enter Try.func6, Try.ntmps6
  go_wp2_with (go_at_call 16; refine hk.out.mono ?_; rintro e w1 ⟨rfl, hb1⟩)
  go_ret
  exact ⟨rfl, hb1⟩
theorem toRefinesQuiet {w : World} {ad : Option Addr} {n cap : Nat} (h : ScriptAt w ad n) :
    Calls Try.prog 17 #[.slice ad n cap] w fun e w' => e = .returned (.int .i64 (-1)) ∧ Below w.heap.size w w' := by
  have hk := hide (walk_calls (cap := cap) h true)
  clear h
  go_enter Try.func17, Try.ntmps17
  go_wp2_with (go_at_call 22; refine hk.out.mono ?_; rintro e w1 ⟨j, rfl, hb1⟩)
  go_ret
  exact ⟨rfl, hb1⟩
theorem walkRefinesQuiet {w : World} {ad : Option Addr} {n cap : Nat} (h : ScriptAt w ad n) :
    Calls Try.prog 7 #[.slice ad n cap] w fun e w' => e = .returned (.bool true) ∧ Below w.heap.size w w' := by
  have hk := hide (toRefinesQuiet (cap := cap) h)
  clear h
  go_enter Try.func7, Try.ntmps7
  go_wp2_with (go_at_call 17; refine hk.out.mono ?_; rintro e w1 ⟨rfl, hb1⟩)
  go_ret
  exact ⟨rfl, hb1⟩
end Go.Proofs.Qxb6500606a
