/-
  The model valsm: Sound, Check. (Seat 606 alone.)
-/
import Derived.Test.Qxb6500606aMShow
namespace Go.Proofs.Qxb6500606a
open Go.ChangeShapes Go.WideShapes Go.ChangeAt Go.RowKit
attribute [local go_sem] str_size str_app str_app1 str_1app str_toList str_get
set_option linter.unusedVariables false

set_option maxRecDepth 10000 in
set_option maxHeartbeats 1000000 in
theorem msound_int (n : Int) (W : World) : Calls Try.prog 71 #[.agg #[.int .i64 1, .int .i64 n, .string (str []), .slice none 0 0]] W fun e w' => e = .returned (.bool true) ∧ Below W.heap.size W w' := by
  have hb : Below W.heap.size W (W.alloc (.cells #[.int .i64 1, .int .i64 n, .string (str []), .slice none 0 0] 79)) := below_alloc (Below.refl _ _)
  go_enter Try.func71, Try.ntmps71
  go_wp2
  go_ret
  exact ⟨rfl, hb⟩
set_option maxRecDepth 10000 in
set_option maxHeartbeats 1000000 in
theorem msound_str (s : List UInt8) (W : World) : Calls Try.prog 71 #[.agg #[.int .i64 2, .int .i64 0, .string (str s), .slice none 0 0]] W fun e w' => e = .returned (.bool true) ∧ Below W.heap.size W w' := by
  have hb : Below W.heap.size W (W.alloc (.cells #[.int .i64 2, .int .i64 0, .string (str s), .slice none 0 0] 79)) := below_alloc (Below.refl _ _)
  go_enter Try.func71, Try.ntmps71
  go_wp2
  go_ret
  exact ⟨rfl, hb⟩
set_option maxRecDepth 10000 in
set_option maxHeartbeats 2000000 in
theorem msound_kids {w : World} {g : Nat → Prop} {v : V} {k : Value} {css : List (List Value)} (hr : MRow w g k css (parts v)) (hc : canIter v = true)
    (ih : ∀ (i : Nat) (e : V) (cs : List Value), (parts v)[i]? = some e → css[i]? = some cs → ∀ W, Below w.heap.size w W → Calls Try.prog 71 #[.agg cs.toArray] W fun e' w' => e' = .returned (.bool true) ∧ Below W.heap.size W w')
    (W : World) (hW : Below w.heap.size w W) : Calls Try.prog 71 #[.agg #[.int .i64 (kind v), .int .i64 0, .string (str []), k]] W fun e w' => e = .returned (.bool true) ∧ Below W.heap.size W w' := by
  obtain ⟨a, cap, rfl, hnm, _⟩ := ownsRow_slice4 hr.row
  have hb : Below W.heap.size W (W.alloc (.cells #[.int .i64 (kind v), .int .i64 0, .string (str []), .slice a (parts v).length cap] 79)) := below_alloc (Below.refl _ _)
  have hk34 : (kind v = 3) ∨ (kind v = 4 ∧ (parts v).length = 2) := by
    by_cases h3 : kind v = 3
    · exact .inl h3
    · have h4 : kind v = 4 := by simp [canIter, h3] at hc; exact hc
      exact .inr ⟨h4, by unfold parts; rw [if_pos h4]; rfl⟩
  have HR := hide hr
  have IH := hide ih
  clear hr ih hc
  generalize hP : parts v = P at *
  generalize kind v = K at *
  generalize hN : P.length = n at *
  have HN := hide hN
  clear hN hP
  have hb3 : n ≤ 9223372036854775807 := hnm
  rcases hk34 with rfl | ⟨rfl, rfl⟩
  all_goals
    go_enter Try.func71, Try.ntmps71
    go_wp2_with fail
  · go_loopw [3] (fun x W' => ∃ j : Nat, x = .int .i64 j ∧ j ≤ n ∧ Below (W.alloc (.cells #[.int .i64 3, .int .i64 0, .string (str []), .slice a n cap] 79)).heap.size (W.alloc (.cells #[.int .i64 3, .int .i64 0, .string (str []), .slice a n cap] 79)) W') (fun x W' => n - (intOf x).toNat)
    case atStart => exact ⟨0, rfl, Nat.zero_le _, Below.refl _ _⟩
    case round =>
      obtain ⟨j, rfl, hj, hbw⟩ := hrel
      have b3 : wr.cell? ⟨W.heap.size, 3, none⟩ = some (.slice a n cap) := box_cell hbw 3
      by_cases hjl : j < n
      · obtain ⟨e, he⟩ : ∃ e, P[j]? = some e := ⟨_, List.getElem?_eq_getElem (by rw [HN.out]; exact hjl)⟩
        obtain ⟨b, cap', cs, ek, _, hcs, hR, _, hbl⟩ := HR.out.at he
        have ek' : a = some ⟨b, 0, none⟩ := by cases ek; rfl
        subst ek'
        have hww := below_next hW (below_next hb hbw)
        have hR2 := hide (range_below hR hbl hww)
        have h4 := hide (HR.out.four cs (List.mem_of_getElem? hcs))
        have hih := hide (IH.out j e cs he hcs wr hww)
        have hd1 : decide ((j : Int) < n) = true := decide_eq_true (by omega)
        clear hR he hcs ek
        go_wp2_with (first | (refine wpList_load_mid rfl 79 _ rfl b (j * 4) rfl cs _ hR2.out Try.underlying79 rfl (info79 cs h4.out) ?_) | (go_at_call 71; refine hih.out.mono ?_; rintro e' w2 ⟨rfl, hb2⟩))
        go_roundw
        case rel => first | exact ⟨_, _, _, _, _, _, _, _, _, _, _, _, _, _, _, ⟨j + 1, by go_num, by omega, below_next hbw hb2⟩, rfl⟩ | exact ⟨_, _, _, _, _, _, _, _, _, _, _, _, _, _, _, _, ⟨j + 1, by go_num, by omega, below_next hbw hb2⟩, rfl⟩
        case measure => simp [intOf]; omega
      · have hd1 : decide ((j : Int) < n) = false := decide_eq_false (by omega)
        go_wp2
        go_ret
        exact ⟨rfl, below_next hb hbw⟩
  · go_loopw [3] (fun x W' => ∃ j : Nat, x = .int .i64 j ∧ j ≤ 2 ∧ Below (W.alloc (.cells #[.int .i64 4, .int .i64 0, .string (str []), .slice a 2 cap] 79)).heap.size (W.alloc (.cells #[.int .i64 4, .int .i64 0, .string (str []), .slice a 2 cap] 79)) W') (fun x W' => 2 - (intOf x).toNat)
    case atStart => exact ⟨0, rfl, Nat.zero_le _, Below.refl _ _⟩
    case round =>
      obtain ⟨j, rfl, hj, hbw⟩ := hrel
      have b3 : wr.cell? ⟨W.heap.size, 3, none⟩ = some (.slice a 2 cap) := box_cell hbw 3
      by_cases hjl : j < 2
      · obtain ⟨e, he⟩ : ∃ e, P[j]? = some e := ⟨_, List.getElem?_eq_getElem (by rw [HN.out]; exact hjl)⟩
        obtain ⟨b, cap', cs, ek, _, hcs, hR, _, hbl⟩ := HR.out.at he
        have ek' : a = some ⟨b, 0, none⟩ := (Value.slice.inj ek).1
        subst ek'
        have hww := below_next hW (below_next hb hbw)
        have hR2 := hide (range_below hR hbl hww)
        have h4 := hide (HR.out.four cs (List.mem_of_getElem? hcs))
        have hih := hide (IH.out j e cs he hcs wr hww)
        have hd1 : decide ((j : Int) < 2) = true := decide_eq_true (by omega)
        clear hR he hcs ek
        go_wp2_with (first | (refine wpList_load_mid rfl 79 _ rfl b (j * 4) rfl cs _ hR2.out Try.underlying79 rfl (info79 cs h4.out) ?_) | (go_at_call 71; refine hih.out.mono ?_; rintro e' w2 ⟨rfl, hb2⟩))
        go_roundw
        case rel => first | exact ⟨_, _, _, _, _, _, _, _, _, _, _, _, _, _, _, ⟨j + 1, by go_num, by omega, below_next hbw hb2⟩, rfl⟩ | exact ⟨_, _, _, _, _, _, _, _, _, _, _, _, _, _, _, _, ⟨j + 1, by go_num, by omega, below_next hbw hb2⟩, rfl⟩
        case measure => simp [intOf]; omega
      · have hd1 : decide ((j : Int) < 2) = false := decide_eq_false (by omega)
        go_wp2
        go_ret
        exact ⟨rfl, below_next hb hbw⟩
theorem msound_calls {w : World} {g : Nat → Prop} {v : V} {cs : List Value} (h : MV w g v cs) : ∀ W, Below w.heap.size w W → Calls Try.prog 71 #[.agg cs.toArray] W fun e w' => e = .returned (.bool true) ∧ Below W.heap.size W w' := by
  induction h using MV.ind with
  | int n hn => intro W _; exact msound_int n W
  | str s => intro W _; exact msound_str s W
  | kids v k css hc hrow hg hlen h4 hz hks ih => intro W hW; exact msound_kids (css := css) ⟨hrow, hlen, h4, hks⟩ hc ih W hW
section
variable {w : World} {m : Nat} {g : Option Nat} {vs : St}
set_option maxRecDepth 10000 in
set_option maxHeartbeats 1000000 in
theorem mCheck (h : MStk w m g vs) (hok : Okay vs) (hwf : ∀ v ∈ vs, Wf v) : Calls Try.prog 36 #[.pointer (some ⟨m, 0, none⟩)] w fun e w' => e = .returned (.bool true) ∧ Below w.heap.size w w' := by
  obtain ⟨a, cap, c0⟩ := depth_c0 h
  have hn5 := hok.1
  have HG : Hid (∀ w1, Below w.heap.size w w1 → MStk w1 m g vs) := fun w1 hb => h.below hb
  have HOK := hide hok
  have HWF := hide hwf
  have hml := h.lt.1
  have hle : decide ((vs.length : Int) ≤ 5) = true := decide_eq_true (by omega)
  clear h hok hwf
  go_enter Try.func36, Try.ntmps36
  go_wp2_with fail
  go_loopw [3] (fun x W => ∃ j : Nat, x = .int .i64 j ∧ j ≤ vs.length ∧ Below w.heap.size w W) (fun x W => vs.length - (intOf x).toNat)
  case atStart => exact ⟨0, rfl, Nat.zero_le _, Below.refl _ _⟩
  case round =>
    obtain ⟨j, rfl, hj, hbw⟩ := hrel
    have c1 := (hbw.cell (p := ⟨m, 0, none⟩) hml).trans c0
    by_cases hjl : j < vs.length
    · have hv : vs[j]? = some vs[j] := List.getElem?_eq_getElem hjl
      obtain ⟨b, cap', cs, c2, hR, hmv, hbl⟩ := (HG.out wr hbw).nth hv
      have hl3 := HOK.out.2 vs[j] (List.getElem_mem _)
      have hso := hide (msound_calls hmv wr (Below.refl _ _))
      have htx := hide (fun W hW => mtext_calls hmv (HWF.out _ (List.getElem_mem _)) (by omega) W hW)
      have HRB := hide (fun W (hW : Below wr.heap.size wr W) => range_below hR hbl hW)
      have hR' := hide hR
      have h4 := hide hmv.len
      have hd : decide ((j : Int) < vs.length) = true := decide_eq_true (by omega)
      have hj5 : j < 5 := by omega
      have hbig : decide (((text vs[j]).length : Int) > 30) = false := decide_eq_false (by omega)
      have hmw : m < wr.heap.size := Nat.lt_of_lt_of_le hml hbw.size
      clear hv hR hmv c1
      generalize text vs[j] = tv at *
      go_upto_region 6 with (first | (refine wpList_load_mid rfl 79 _ rfl b (j * 4) rfl cs _ hR'.out Try.underlying79 rfl (info79 cs h4.out) ?_) | (go_at_call 71; refine hso.out.mono ?_; rintro e' w5 ⟨rfl, hb5⟩))
      have c5 := (hb5.cell (p := ⟨m, 0, none⟩) hmw).trans c2
      have hR5 := hide (HRB.out w5 hb5)
      have htx5 := hide (htx.out w5 hb5)
      go_wp2_with (first | (refine wpList_load_mid rfl 79 _ rfl b (j * 4) rfl cs _ hR5.out Try.underlying79 rfl (info79 cs h4.out) ?_) | (go_at_call 68; refine htx5.out.mono ?_; rintro e' w6 ⟨rfl, hb6⟩))
      go_roundw
      case rel => exact ⟨j + 1, by go_num, by omega, below_next (below_next hbw hb5) hb6⟩
      case measure => simp [intOf]; omega
    · have e : j = vs.length := by omega
      subst e
      have hd : decide ((vs.length : Int) < vs.length) = false := decide_eq_false (by omega)
      go_wp2
      go_ret
      exact ⟨rfl, hbw⟩
end
end Go.Proofs.Qxb6500606a
