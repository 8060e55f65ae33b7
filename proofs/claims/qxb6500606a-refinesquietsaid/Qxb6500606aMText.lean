/-
  The model valsm: Text. (Seat 606 alone.)
-/
import Derived.Test.Qxb6500606aMRep
namespace Go.Proofs.Qxb6500606a
open Go.ChangeShapes Go.WideShapes Go.ChangeAt Go.RowKit
attribute [local go_sem] str_size str_app str_app1 str_1app str_toList str_get
set_option linter.unusedVariables false

theorem box_cell {W w1 : World} {cs : Array Value} {t : TypeId} (hb : Below (W.alloc (.cells cs t)).heap.size (W.alloc (.cells cs t)) w1) (j : Nat) : w1.cell? ⟨W.heap.size, j, none⟩ = cs[j]? := by
  rw [hb.cell (p := ⟨W.heap.size, j, none⟩) (by simp)]
  simp only [World.cell?, heap_alloc_new]
  rfl
theorem range_below {w w' : World} {b o : Nat} {cs : List Value} (h : w.rangeAt b o cs) (hl : b < w.heap.size) (hb : Below w.heap.size w w') : w'.rangeAt b o cs := fun j v hv => (hb.cell (p := ⟨b, o + j, none⟩) hl).trans (h j v hv)
set_option maxRecDepth 10000 in
set_option maxHeartbeats 1000000 in
theorem mtext_int (n : Int) (hn : I64 n) (k : Value) (W : World) : Calls Try.prog 68 #[.agg #[.int .i64 1, .int .i64 n, .string (str []), .slice none 0 0]] W fun e w' => e = .returned (.string (str (text (vint n)))) ∧ Below W.heap.size W w' := by
  have hb : Below W.heap.size W (W.alloc (.cells #[.int .i64 1, .int .i64 n, .string (str []), .slice none 0 0] 79)) := below_alloc (Below.refl _ _)
  have hit := hide (itoa_calls n (W.alloc (.cells #[.int .i64 1, .int .i64 n, .string (str []), .slice none 0 0] 79)) hn)
  rw [text_int]
  generalize itoa n = t at *
  go_enter Try.func68, Try.ntmps68
  go_wp2_with (go_at_call 33; refine hit.out.mono ?_; rintro e w1 ⟨rfl, hb1⟩)
  go_ret
  exact ⟨rfl, below_next hb hb1⟩
set_option maxRecDepth 10000 in
set_option maxHeartbeats 1000000 in
theorem mtext_str (s : List UInt8) (hl : s.length ≤ 1000) (W : World) : Calls Try.prog 68 #[.agg #[.int .i64 2, .int .i64 0, .string (str s), .slice none 0 0]] W fun e w' => e = .returned (.string (str (text (vstr s)))) ∧ Below W.heap.size W w' := by
  have hb : Below W.heap.size W (W.alloc (.cells #[.int .i64 2, .int .i64 0, .string (str s), .slice none 0 0] 79)) := below_alloc (Below.refl _ _)
  have hit := hide (itoa_calls s.length (W.alloc (.cells #[.int .i64 2, .int .i64 0, .string (str s), .slice none 0 0] 79)) (nat_i64 (by omega)))
  have hil := itoa_length s.length
  have HX := hide (text_str s)
  generalize text (vstr s) = tx at *
  generalize itoa (s.length : Int) = t at *
  go_enter Try.func68, Try.ntmps68
  go_wp2_with (go_at_call 33; refine hit.out.mono ?_; rintro e w1 ⟨rfl, hb1⟩; have f2 := box_cell hb1 2)
  go_ret
  exact ⟨by rw [HX.out] <;> rfl, below_next hb hb1⟩
set_option maxRecDepth 10000 in
set_option maxHeartbeats 2000000 in
/-- Of a value with kids, if Text serves each of them. -/
theorem mtext_kids {w : World} {g : Nat → Prop} {v : V} {k : Value} {css : List (List Value)} (hr : MRow w g k css (parts v)) (hw : Wf v) (hc : canIter v = true) (hl : (text v).length ≤ 1000)
    (ih : ∀ (i : Nat) (e : V) (cs : List Value), (parts v)[i]? = some e → css[i]? = some cs → ∀ W, Below w.heap.size w W → Calls Try.prog 68 #[.agg cs.toArray] W fun e' w' => e' = .returned (.string (str (text e))) ∧ Below W.heap.size W w')
    (W : World) (hW : Below w.heap.size w W) : Calls Try.prog 68 #[.agg #[.int .i64 (kind v), .int .i64 0, .string (str []), k]] W fun e w' => e = .returned (.string (str (text v))) ∧ Below W.heap.size W w' := by
  have htk := text_kids hw hc
  have hpl := partsLe hw hc
  obtain ⟨a, cap, rfl, _⟩ := ownsRow_slice4 hr.row
  have hb : Below W.heap.size W (W.alloc (.cells #[.int .i64 (kind v), .int .i64 0, .string (str []), .slice a (parts v).length cap] 79)) := below_alloc (Below.refl _ _)
  have hnp := hpl.2
  have HPL := hide hpl.1
  have HIN : Hid ((innerL (parts v)).length ≤ 1000) := by
    rcases htk with ⟨_, e⟩ | ⟨_, e⟩ <;> (show (innerL (parts v)).length ≤ 1000; rw [e] at hl; simp at hl; omega)
  have HTK := hide htk
  have HR := hide hr
  have IH := hide ih
  have hk12 : ((kind v : Int) == 1) = false ∧ ((kind v : Int) == 2) = false := by rcases htk with ⟨e, _⟩ | ⟨e, _⟩ <;> rw [e] <;> exact ⟨rfl, rfl⟩
  obtain ⟨hk1, hk2⟩ := hk12
  clear htk hpl hr ih hc
  generalize hP : parts v = P at *
  generalize hK : kind v = K at *
  generalize hN : P.length = n at *
  have HN := hide hN
  clear hN hP
  go_enter Try.func68, Try.ntmps68
  go_wp2_with fail
  go_loopw [4, 5] (fun tt x W' => ∃ j : Nat, x = .int .i64 j ∧ j ≤ n ∧ tt = .string (str (innerL (P.take j))) ∧ Below (W.alloc (.cells #[.int .i64 K, .int .i64 0, .string (str []), .slice a n cap] 79)).heap.size (W.alloc (.cells #[.int .i64 K, .int .i64 0, .string (str []), .slice a n cap] 79)) W') (fun tt x W' => n - (intOf x).toNat)
  case atStart => exact ⟨0, rfl, Nat.zero_le _, rfl, Below.refl _ _⟩
  case round =>
    obtain ⟨j, rfl, hj, rfl, hbw⟩ := hrel
    have b0 := box_cell hbw 0
    have b3 := box_cell hbw 3
    have b0' : wr.cell? ⟨W.heap.size, 0, none⟩ = some (.int .i64 K) := b0
    have b3' : wr.cell? ⟨W.heap.size, 3, none⟩ = some (.slice a n cap) := b3
    clear b0 b3
    have hil : (innerL (P.take j)).length ≤ 1000 := Nat.le_trans (innerL_take_le P j) HIN.out
    by_cases hjl : j < n
    · obtain ⟨e, he⟩ : ∃ e, P[j]? = some e := ⟨_, List.getElem?_eq_getElem (by rw [HN.out]; exact hjl)⟩
      obtain ⟨b, cap', cs, ek, _, hcs, hR, _, hbl⟩ := HR.out.at he
      have ek' : a = some ⟨b, 0, none⟩ := by cases ek; rfl
      subst ek'
      clear ek
      have hww := below_next hW (below_next hb hbw)
      have hR2 := hide (range_below hR hbl hww)
      have h4 := hide (HR.out.four cs (List.mem_of_getElem? hcs))
      have hih := hide (IH.out j e cs he hcs wr hww)
      have hel := (HPL.out e (List.mem_of_getElem? he)).2
      have hd1 : decide ((j : Int) < n) = true := decide_eq_true (by omega)
      have HS : Hid (innerL (P.take (j + 1)) = if j = 0 then text e else innerL (P.take j) ++ 32 :: text e) := by
        show innerL (P.take (j + 1)) = _
        have e1 : P.take (j + 1) = P.take j ++ [e] := by rw [List.take_add_one, he]; rfl
        rw [e1, innerL_snoc]
        by_cases h0 : j = 0
        · rw [if_pos h0, if_pos (by rw [h0]; rfl)]
        · rw [if_neg h0, if_neg]
          intro hnil
          have h1 := congrArg List.length hnil
          rw [List.length_take, HN.out] at h1
          simp at h1
          omega
      clear hR he hcs
      generalize hte : text e = te at *
      clear hte
      by_cases h0 : j = 0
      · subst h0
        have HS0 : Hid (innerL (P.take (0 + 1)) = te) := by show _ = te; rw [HS.out, if_pos rfl]
        have e0 : innerL (P.take 0) = [] := rfl
        rw [e0]
        clear hil e0
        clear HS
        go_wp2_with (first | (refine wpList_load_mid rfl 79 _ rfl b (0 * 4) rfl cs _ hR2.out Try.underlying79 rfl (info79 cs h4.out) ?_) | (go_at_call 68; refine hih.out.mono ?_; rintro e' w2 ⟨rfl, hb2⟩))
        exact ⟨⟨0 + 1, by go_num, by omega, by rw [HS0.out] <;> rfl, below_next hbw hb2⟩, by simp [intOf]; omega⟩
      · have HS1 : Hid (innerL (P.take (j + 1)) = innerL (P.take j) ++ 32 :: te) := by show _ = _; rw [HS.out, if_neg h0]
        have hd2 : decide ((j : Int) > 0) = true := decide_eq_true (by omega)
        clear HS
        generalize hil2 : innerL (P.take j) = ij at *
        clear hil2
        go_wp2_with (first | (refine wpList_load_mid rfl 79 _ rfl b (j * 4) rfl cs _ hR2.out Try.underlying79 rfl (info79 cs h4.out) ?_) | (go_at_call 68; refine hih.out.mono ?_; rintro e' w2 ⟨rfl, hb2⟩))
        exact ⟨⟨j + 1, by go_num, by omega, by rw [HS1.out], below_next hbw hb2⟩, by simp [intOf]; omega⟩
    · have ej : j = n := by omega
      subst ej
      have hd1 : decide ((j : Int) < j) = false := decide_eq_false (by omega)
      have HI : Hid (innerL (P.take j) = innerL P) := by show _ = _; rw [List.take_of_length_le (by rw [HN.out]; omega)]
      have hww := below_next hb hbw
      rcases HTK.out with ⟨rfl, etx⟩ | ⟨rfl, etx⟩
      · have HX : Hid (text v = 91 :: (innerL (P.take j) ++ [93])) := by show text v = _; rw [HI.out]; exact etx
        clear etx HI
        generalize innerL (P.take j) = ij at *
        go_wp2
        go_ret
        exact ⟨by rw [HX.out] <;> rfl, hww⟩
      · have HX : Hid (text v = 60 :: (innerL (P.take j) ++ [62])) := by show text v = _; rw [HI.out]; exact etx
        clear etx HI
        generalize innerL (P.take j) = ij at *
        go_wp2
        go_ret
        exact ⟨by rw [HX.out] <;> rfl, hww⟩
theorem mtext_calls {w : World} {g : Nat → Prop} {v : V} {cs : List Value} (h : MV w g v cs) : Wf v → (text v).length ≤ 1000 → ∀ W, Below w.heap.size w W → Calls Try.prog 68 #[.agg cs.toArray] W fun e w' => e = .returned (.string (str (text v))) ∧ Below W.heap.size W w' := by
  induction h using MV.ind with
  | int n hn => intro _ _ W _; exact mtext_int n hn .nilIface W
  | str s =>
    intro _ hl W _
    rw [text_str] at hl
    simp at hl
    exact mtext_str s (by omega) W
  | kids v k css hc hrow hg hlen h4 hz hks ih =>
    intro hw hl W hW
    have hp := partsLe hw hc
    refine mtext_kids (css := css) ⟨hrow, hlen, h4, hks⟩ hw hc hl (fun i e cs he hcs W hW => ih i e cs he hcs (hp.1 e (List.mem_of_getElem? he)).1 ?_ W hW) W hW
    have := (hp.1 e (List.mem_of_getElem? he)).2
    omega
end Go.Proofs.Qxb6500606a
