/-
  The model valsm: Find. (Seat 606 alone.)
-/
import Derived.Test.Qxb6500606aMAdd
namespace Go.Proofs.Qxb6500606a
open Go.ChangeShapes Go.WideShapes Go.ChangeAt Go.RowKit
attribute [local go_sem] str_size str_app str_app1 str_1app str_toList str_get
set_option linter.unusedVariables false

theorem findIn_bound (t : List UInt8) : ∀ (l : List V) (i : Int), 0 ≤ i → -1 ≤ findIn t l i ∧ findIn t l i ≤ i + l.length
  | [], i, h => by simp [findIn]; omega
  | v :: r, i, h => by
    have := findIn_bound t r (i + 1) (by omega)
    unfold findIn
    split
    · simp; omega
    · simp; omega
section
variable {w : World} {m : Nat} {g : Option Nat} {vs : St}
set_option maxRecDepth 100000 in
set_option maxHeartbeats 4000000 in
theorem mFind (h : MStk w m g vs) (hok : Okay vs) (hwf : ∀ v ∈ vs, Wf v) : MWord 56 w m g (findF vs) := by
  by_cases h0 : vs.length < 2
  · exact mFind_under h h0
  · obtain ⟨b, cap, cs, cs2, c0, hR, hv, hR2, hv2, hbl, hgb⟩ := h.hasTwo (by omega)
    have hwt := hwf _ (List.mem_of_getElem? (top_at (by omega)))
    have hws := hwf _ (List.mem_of_getElem? (sub_at (by omega)))
    have hlt := hok.top (by omega)
    have hls := hok.subtop (by omega)
    have HC : Hid (findF vs = if canIter (subtop vs) then lay 2 (vint (findIn (text (top vs)) (parts (subtop vs)) 0)) vs else (5, vs)) := by
      show findF vs = _
      unfold findF; rw [if_neg h0]
    obtain ⟨q, hq⟩ : ∃ q : Nat, (vs.length : Int) - 1 = q := ⟨vs.length - 1, by omega⟩
    obtain ⟨p, hp⟩ : ∃ p : Nat, (vs.length : Int) - 2 = p := ⟨vs.length - 2, by omega⟩
    have hq2 : vs.length - 1 = q := by omega
    have hp2 : vs.length - 2 = p := by omega
    rw [hq2] at hR
    rw [hp2] at hR2
    have hql : (q : Int) < vs.length := by omega
    have hql2 : q < vs.length := by omega
    have hpl2 : p < vs.length := by omega
    have hpl3 : (p : Int) < vs.length := by omega
    have hd : decide ((vs.length : Int) < 2) = false := decide_eq_false (by omega)
    have h5 := hok.1
    have hn2 : 2 ≤ vs.length := by omega
    have HH := hide h
    have hh := hide (hasI_calls _ hws)
    have q4 := canI_iter hws
    have hR2t := hide hR2
    have hRt := hide hR
    have hmlt := h.lt.1
    by_cases hc : canIter (subtop vs) = true
    · rw [hc] at q4
      rw [if_pos hc] at HC
      obtain ⟨k2, css2, rfl, hrow2, hg2, hz2⟩ := hv2.ofKids hc
      obtain ⟨a2, c2, rfl, _⟩ := ownsRow_slice4 hrow2.row
      have hsm := (partsLe hws hc).2
      have hpl30 : (parts (subtop vs)).length ≤ 30 := by omega
      have hW1 : Below w.heap.size w (w.alloc (.cells #[.int .i64 (kind (subtop vs)), .int .i64 0, .string (str []), .slice a2 (parts (subtop vs)).length c2] 79)) := below_alloc (Below.refl _ _)
      have m1 := (hW1.cell (p := ⟨m, 0, none⟩) hmlt).trans c0
      have hRt1 := hide (range_below hR hbl hW1)
      have htt := hide (mtext_calls hv hwt (by omega) _ hW1)
      have h4 := hide hv.len
      have HKT : Hid (∀ (i : Nat) (e : V), (parts (subtop vs))[i]? = some e → ∃ kb kc cse, Value.slice a2 (parts (subtop vs)).length c2 = .slice (some ⟨kb, 0, none⟩) (parts (subtop vs)).length kc ∧ cse.length = 4 ∧ kb < w.heap.size ∧ w.rangeAt kb (i * 4) cse ∧ (text e).length ≤ 30 ∧ ∀ W, Below w.heap.size w W → Calls Try.prog 68 #[.agg cse.toArray] W fun e' w' => e' = .returned (.string (str (text e))) ∧ Below W.heap.size W w') := fun i e he => by
        obtain ⟨kb, kc, cse, ek, _, hcs, hRe, hve, hkbl⟩ := hrow2.at he
        have hle := (partsLe hws hc).1 e (List.mem_of_getElem? he)
        exact ⟨kb, kc, cse, ek, hve.len, hkbl, hRe, by omega, mtext_calls hve hle.1 (by omega)⟩
      have HRR : Hid (findF vs = putF 2 (vint (findIn (text (top vs)) (parts (subtop vs)) 0)) vs) := by
        show findF vs = _
        rw [HC.out, putF_room (text_vint _) h5 (by omega) hn2]
      clear HC hws hwt hls h0 hok hwf h hR hR2 hv hv2 hrow2 hg2 hz2 hgb hq2 hp2 hc
      generalize kind (subtop vs) = ks at *
      generalize hTT : text (top vs) = tt at *
      generalize hPP : parts (subtop vs) = P at *
      clear hPP hTT
      have HW1 := hide hW1
      generalize hN : P.length = n at *
      have HN := hide hN
      unfold MWord
      go_enter Try.func56, Try.ntmps56
      go_wp2_with (first | (refine wpList_load_mid rfl 79 _ rfl b (p * 4) rfl [.int .i64 ks, .int .i64 0, .string (str []), .slice a2 n c2] _ hR2t.out Try.underlying79 rfl (info79 _ rfl) ?_) | (refine wpList_load_mid rfl 79 _ rfl b (q * 4) rfl cs _ hRt1.out Try.underlying79 rfl (info79 cs h4.out) ?_) | (go_at_call 83; refine (hh.out _ (by decide) _).mono ?_; rintro e w' ⟨rfl, hw⟩; subst w') | (go_at_call 68; refine htt.out.mono ?_; rintro e w2 ⟨rfl, hb2⟩; have e3 : w2.cell? ⟨w.heap.size, 3, none⟩ = some (.slice a2 n c2) := box_cell hb2 3))
      have hBw2 := below_next hW1 hb2
      go_loopw [6, 7] (fun at' x W => ∃ (j : Nat) (z : Int), x = .int .i64 z ∧ z = (j : Int) - 1 ∧ j ≤ n ∧ at' = .int .i64 (findIn tt (P.drop j) j) ∧ Below w2.heap.size w2 W) (fun at' x W => (intOf x + 1).toNat)
      case atStart => exact ⟨n, (n : Int) - 1, rfl, rfl, Nat.le_refl _, by rw [List.drop_of_length_le (by rw [HN.out]; omega)]; rfl, Below.refl _ _⟩
      case round =>
        obtain ⟨j, z, rfl, hz, hj, rfl, hbw⟩ := hrel
        have hww := below_next hBw2 hbw
        have e3' : wr.cell? ⟨w.heap.size, 3, none⟩ = some (.slice a2 n c2) := (hbw.cell (p := ⟨w.heap.size, 3, none⟩) (by have := hb2.size; simp at this; show w.heap.size < w2.heap.size; omega)).trans e3
        have hfb := findIn_bound tt (P.drop j) j (by omega)
        cases j with
        | zero =>
          have ez : z = -1 := by omega
          subst ez
          have hput := hide (put_calls (HH.out.below hww) h5 2 hn2 (.int (findIn tt P 0) (by have := findIn_bound tt P 0 (by omega); rw [HN.out] at this; constructor <;> omega)) (wf_vint (by have := findIn_bound tt P 0 (by omega); rw [HN.out] at this; constructor <;> omega)) (by have := text_vint (findIn tt P 0); omega))
          have e0 : findIn tt (P.drop 0) ((0 : Nat) : Int) = findIn tt P 0 := rfl
          rw [e0]
          generalize findIn tt P 0 = fz at *
          clear hfb hz e0 HKT
          go_wp2_with (go_at_call 81; refine hput.out.mono ?_; rintro e w7 ⟨rfl, hm7⟩)
          go_ret
          rw [HRR.out]
          exact ⟨rfl, MMoved.after hww hm7⟩
        | succ i =>
          have ez : z = (i : Int) := by omega
          subst ez
          obtain ⟨e, he⟩ : ∃ e, P[i]? = some e := ⟨_, List.getElem?_eq_getElem (by rw [HN.out]; omega)⟩
          obtain ⟨kb, kc, cse, ek, hc4, hkbl, hRe, hle, hte⟩ := HKT.out i e he
          have ek' : a2 = some ⟨kb, 0, none⟩ := by cases ek; rfl
          subst ek'
          have hRe' := hide (range_below hRe hkbl hww)
          have hc4' := hide hc4
          have hte' := hide (hte wr hww)
          have hin : (i : Int) < n := by omega
          have hin2 : i < n := by omega
          have HST := findIn_step (t := tt) he i
          have ei : ((i + 1 : Nat) : Int) = (i : Int) + 1 := by omega
          rw [ei]
          rw [ei] at hfb
          clear hRe hc4 hte ek hz
          by_cases heq : text e = tt
          · rw [if_pos heq] at HST
            have hq2 : (text e == tt) = true := by simp [heq]
            have HS := hide HST
            clear HST heq he
            generalize findIn tt (P.drop (i + 1)) ((i : Int) + 1) = fz at *
            generalize text e = te at *
            go_wp2_with (first | (refine wpList_load_mid rfl 79 _ rfl kb (i * 4) rfl cse _ hRe'.out Try.underlying79 rfl (info79 cse hc4'.out) ?_) | (go_at_call 68; refine hte'.out.mono ?_; rintro e' w5 ⟨rfl, hb5⟩))
            go_roundw
            case rel => exact ⟨i, (i : Int) - 1, by go_num, rfl, by omega, by rw [HS.out], below_next hbw hb5⟩
            case measure => simp [intOf]
          · rw [if_neg heq] at HST
            have hq2 : (text e == tt) = false := by simpa using heq
            have HS := hide HST
            clear HST heq he
            generalize hfz : findIn tt (P.drop (i + 1)) ((i : Int) + 1) = fz at *
            clear hfz
            generalize text e = te at *
            go_wp2_with (first | (refine wpList_load_mid rfl 79 _ rfl kb (i * 4) rfl cse _ hRe'.out Try.underlying79 rfl (info79 cse hc4'.out) ?_) | (go_at_call 68; refine hte'.out.mono ?_; rintro e' w5 ⟨rfl, hb5⟩))
            go_roundw
            case rel => exact ⟨i, (i : Int) - 1, by go_num, rfl, by omega, by rw [HS.out], below_next hbw hb5⟩
            case measure => simp [intOf]
    · have hcf : canIter (subtop vs) = false := by simpa using hc
      rw [hcf] at q4
      rw [if_neg hc] at HC
      obtain ⟨n2, s2, a2, l2, p2, rfl⟩ := hv2.cells
      clear h hok hwf h0 hR hR2 hv hv2 hwt hws hlt hls hq2 hp2 hc hgb
      generalize kind (subtop vs) = ks at *
      unfold MWord
      go_enter Try.func56, Try.ntmps56
      go_wp2_with (first | (refine wpList_load_mid rfl 79 _ rfl b (p * 4) rfl [.int .i64 ks, .int .i64 n2, .string (str s2), .slice a2 l2 p2] _ hR2t.out Try.underlying79 rfl (info79 _ rfl) ?_) | (go_at_call 83; refine (hh.out _ (by decide) _).mono ?_; rintro e w' ⟨rfl, hw⟩; subst w'))
      go_ret
      rw [HC.out]
      exact ⟨rfl, MMoved.below HH.out (below_alloc (Below.refl _ _))⟩
end
end Go.Proofs.Qxb6500606a
