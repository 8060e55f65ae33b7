/-
  The model valsm: Extra: echo. (Seat 606 alone.)
-/
import Derived.Test.Qxb6500606aMExtra
namespace Go.Proofs.Qxb6500606a
open Go.ChangeShapes Go.WideShapes Go.ChangeAt Go.RowKit
attribute [local go_sem] str_size str_app str_app1 str_1app str_toList str_get
set_option linter.unusedVariables false

theorem MStk.row {w : World} {m : Nat} {g : Option Nat} {vs : St} (h : MStk w m g vs) : ∃ (a : Option Addr) (cap : Nat) (css : List (List Value)), w.cell? ⟨m, 0, none⟩ = some (.slice a vs.length cap) ∧ css.length = vs.length ∧ (∀ cs ∈ css, cs.length = 4) ∧ (∀ cs ∈ css, ∀ u ∈ cs, u.oneCell' = true) ∧ (∀ (i : Nat) (v : V) (cs : List Value), vs[i]? = some v → css[i]? = some cs → MV w (ex g) v cs) ∧ ∀ (i : Nat) (cs : List Value), css[i]? = some cs → ∃ b, a = some ⟨b, 0, none⟩ ∧ b < w.heap.size ∧ w.rangeAt b (i * 4) cs := by
  obtain ⟨a, cap, css, h1, h2, h3, h4, _⟩ := h.open
  refine ⟨a, cap, css, h2, h4.len, h4.four, fun cs hcs => ?_, h4.rep, fun i cs hcs => ?_⟩
  · obtain ⟨i, hi⟩ := List.getElem?_of_mem hcs
    have hl : i < vs.length := by rw [← h4.len]; exact (List.getElem?_eq_some_iff.1 hi).1
    exact (h4.rep i _ cs (List.getElem?_eq_getElem hl) hi).one
  · have hl : i < vs.length := by rw [← h4.len]; exact (List.getElem?_eq_some_iff.1 hcs).1
    obtain ⟨b, cap', cs', ek, _, hcs', hR, _, hbl⟩ := h4.at (List.getElem?_eq_getElem hl)
    rw [hcs] at hcs'
    cases hcs'
    cases ek
    exact ⟨b, rfl, hbl, hR⟩
/-- A stack that was given a new row. -/
theorem echo_end {w W : World} {m : Nat} {g : Option Nat} {vs us : St} {css : List (List Value)} {B n cap : Nat} (h : MStk w m g vs) (hb : Below w.heap.size w W) (hB : w.heap.size ≤ B) (hn : us.length = n) (hlen : css.length = us.length) (h4 : ∀ cs ∈ css, cs.length = 4) (hrow : W.ownsRow w.heap.size 79 4 (.slice (some ⟨B, 0, none⟩) n cap) n css.flatten) (hrep : ∀ (i : Nat) (v : V) (cs : List Value), us[i]? = some v → css[i]? = some cs → MV w (ex g) v cs) :
    MMoved w m g us (W.setCell ⟨m, 0, none⟩ (.slice (some ⟨B, 0, none⟩) n cap)) := by
  obtain ⟨k, css0, h1, h2, h3⟩ := id h
  have hml := lt_of_heap h1
  have hbm : W.heap[m]? = some (.cells #[k] 63) := (hb.block m hml).trans h1
  have ho : Only (mown m g) w (W.setCell ⟨m, 0, none⟩ (.slice (some ⟨B, 0, none⟩) n cap)) := (Only.of_below hb).setCell (.inl (.inl rfl)) _
  have hk : ∀ b c, w.heap[b]? = some (.cells c 79) → ¬ ex g b → (W.setCell ⟨m, 0, none⟩ (.slice (some ⟨B, 0, none⟩) n cap)).heap[b]? = some (.cells c 79) ∧ ¬ ex (some B) b := fun b c e hne => by
    have hbl := lt_of_heap e
    refine ⟨(ho.block b hbl ?_).trans e, ?_⟩
    · rintro (rfl | h)
      · rw [h1] at e; simp at e
      · exact hne h
    · intro h; cases h; omega
  refine ⟨some B, ⟨.slice (some ⟨B, 0, none⟩) n cap, css, ?_, rfl, ⟨?_, hlen, h4, fun i e cs he hc => (hrep i e cs he hc).keep hk⟩⟩, fun b hb' => by cases hb'; exact .inr hB, ho⟩
  · rw [heap_setCell_same W m 0 _ _ _ hbm]; rfl
  · rw [hn]
    refine ⟨hrow.1, orMap hrow.2 id ?_⟩
    rintro ⟨g', c', cur, e1, e2, e3, e4⟩
    exact ⟨g', c', cur, e1, Nat.zero_le _, (Below.heap_setCell W _ _ g' (by show g' ≠ m; omega)).trans e3, e4⟩
section
variable {w : World} {m : Nat} {g : Option Nat} {vs : St}
set_option maxRecDepth 100000 in
set_option maxHeartbeats 4000000 in
theorem mx_echo (h : MStk w m g vs) (hok : Okay vs) (hwf : ∀ v ∈ vs, Wf v) : MXWord w m g 3 (echoF vs) := by
  have h5 := hok.1
  obtain ⟨a, cap, css, c0, hcl, hc4, hc1, hrep, hcr⟩ := h.row
  have hmlt := h.lt.1
  have HC : Hid (echoF vs = if 5 < 2 * vs.length then (3, vs) else (0, vs.reverse ++ vs)) := rfl
  have HH := hide h
  clear h hok hwf
  by_cases hful : 5 < 2 * vs.length
  · rw [if_pos hful] at HC
    have hd : decide (2 * (vs.length : Int) > 5) = true := decide_eq_true (by omega)
    clear hcr hrep hc1 hc4
    unfold MXWord
    go_enter Try.func61, Try.ntmps61
    go_wp2
    go_ret
    rw [HC.out]
    exact ⟨rfl, MMoved.same HH.out⟩
  · rw [if_neg hful] at HC
    have hd : decide (2 * (vs.length : Int) > 5) = false := decide_eq_false (by omega)
    have HREP := hide hrep
    have HC4 := hide hc4
    have HC1 := hide hc1
    have HCR := hide hcr
    have HCL := hide hcl
    obtain ⟨iv, hiv, hz, hsz, hby⟩ := info_parts infoM
    generalize hvn : vs.length = n at *
    have HN := hide hvn
    clear hrep hc4 hc1 hcr hcl hvn
    unfold MXWord
    go_enter Try.func61, Try.ntmps61
    go_wp2_with (refine wpList_make_own _ rfl _ _ 61 rfl w.heap.size 79 iv _ 4 Try.underlying61 hiv hz hsz .i64 .i64 (2 * ↑n) (2 * n) rfl rfl (by omega) (by rw [hby]; omega) (by unfold maxLen; omega) (Nat.le_refl _) ?_; intro w1 ow1 gr1; have hb1 := below_grown (Below.refl _ w) gr1 (fun k hk => by cases hk); have OW1 := hide ow1; clear ow1 gr1)
    go_loopw [8, 9] (fun v8 x W => ∃ (j : Nat) (z : Int), x = .int .i64 z ∧ z = (n : Int) - 1 - j ∧ j ≤ n ∧ v8 = .slice (some ⟨w.heap.size, 0, none⟩) j (2 * n) ∧ W.ownsRow w.heap.size 79 4 (.slice (some ⟨w.heap.size, 0, none⟩) j (2 * n)) j (css.reverse.take j).flatten ∧ Below w.heap.size w W ∧ w.heap.size < W.heap.size) (fun v8 x W => (intOf x + 1).toNat)
    case atStart => exact ⟨0, (n : Int) - 1, rfl, by omega, Nat.zero_le _, rfl, by simpa using OW1.out, hb1, by
      rcases OW1.out.2 with ⟨e, _⟩ | ⟨g', c', cur, e, _, e3, _⟩
      · cases e
      · cases e; exact lt_of_heap e3⟩
    case round =>
      obtain ⟨j, z, rfl, hzj, hj, rfl, how, hbw, hws⟩ := hrel
      have c1 := (hbw.cell (p := ⟨m, 0, none⟩) hmlt).trans c0
      by_cases hjl : j < n
      · obtain ⟨i, hi⟩ : ∃ i : Nat, n = j + 1 + i := ⟨n - 1 - j, by omega⟩
        have ez : z = (i : Int) := by omega
        subst ez
        have hil : i < css.length := by rw [HCL.out]; omega
        obtain ⟨ci, hci⟩ : ∃ ci, css[i]? = some ci := ⟨_, List.getElem?_eq_getElem hil⟩
        obtain ⟨v, hv⟩ : ∃ v, vs[i]? = some v := ⟨_, List.getElem?_eq_getElem (by rw [HN.out]; omega)⟩
        obtain ⟨b, eb, hbl, hR⟩ := HCR.out i ci hci
        subst eb
        obtain ⟨nI, sI, aI, mI, cI, rfl⟩ := (HREP.out i v ci hv hci).cells
        have hR' := hide (range_below hR hbl hbw)
        have hin : (i : Int) < n := by omega
        have hin2 : i < n := by omega
        have HFL : Hid ((css.reverse.take (j + 1)).flatten = (css.reverse.take j).flatten ++ [.int .i64 (kind v), .int .i64 nI, .string (str sI), .slice aI mI cI]) := by
          show _ = _
          have e1 : css.reverse[j]? = some [.int .i64 (kind v), .int .i64 nI, .string (str sI), .slice aI mI cI] := by
            rw [List.getElem?_reverse (by rw [HCL.out]; omega), HCL.out, show n - 1 - j = i by omega]
            exact hci
          rw [List.take_add_one, e1]
          simp
        have HOW := hide (how.alloc (.cells #[.int .i64 (kind v), .int .i64 nI, .string (str sI), .slice aI mI cI] 79))
        have HNEW : Hid (∀ q u, [Value.int .i64 (kind v), .int .i64 nI, .string (str sI), .slice aI mI cI][q]? = some u → (wr.alloc (.cells #[.int .i64 (kind v), .int .i64 nI, .string (str sI), .slice aI mI cI] 79)).cell? ((⟨wr.heap.size, 0, none⟩ : Addr).add q) = some u) := World.news_of_block (cs := #[.int .i64 (kind v), .int .i64 nI, .string (str sI), .slice aI mI cI]) (t := 79) (fr := (0, 0)) (heap_alloc_new wr _)
        have hge : decide ((i : Int) ≥ 0) = true := decide_eq_true (by omega)
        have HI := hide hi
        have hj2 : j + 1 ≤ 2 * n := by omega
        clear hR how hil hv hci hzj hi
        generalize kind v = kv at *
        go_wp2_with (first | (refine wpList_load_mid rfl 79 _ rfl b (i * 4) rfl [.int .i64 kv, .int .i64 nI, .string (str sI), .slice aI mI cI] _ hR'.out Try.underlying79 rfl (info79 _ rfl) ?_) | (at_builtin; refine wpList_append_fits _ rfl _ _ 61 rfl w.heap.size 79 iv 4 Try.underlying61 hiv hsz w.heap.size j (2 * n) _ rfl HOW.out ⟨wr.heap.size, 0, none⟩ 1 1 [.int .i64 kv, .int .i64 nI, .string (str sI), .slice aI mI cI] rfl rfl HNEW.out (by simp [Value.oneCell']) (by omega) ?_; intro w5 ow5 gr5))
        go_roundw
        case rel =>
          have hi := HI.out
          refine ⟨j + 1, (i : Int) - 1, by go_num, by omega, by omega, rfl, by rw [HFL.out]; exact ow5, below_grown (below_alloc hbw) gr5 (fun k hk => by cases hk; exact Nat.le_refl _), ?_⟩
          have := gr5.size
          simp at this
          omega
        case measure => simp [intOf]
      · have ej : j = n := by omega
        have ez : z = -1 := by omega
        subst ez
        have hge : decide ((-1 : Int) ≥ 0) = false := rfl
        have HOWN : Hid (wr.ownsRow w.heap.size 79 4 (.slice (some ⟨w.heap.size, 0, none⟩) n (2 * n)) n css.reverse.flatten) := by
          show wr.ownsRow _ _ _ _ _ _
          rw [ej, List.take_of_length_le (by rw [List.length_reverse, HCL.out]; omega)] at how
          exact how
        subst ej
        clear how hzj
        go_wp2_with fail
        go_loopw [8, 10] (fun v8 x W => ∃ (q : Nat), x = .int .i64 q ∧ q ≤ j ∧ v8 = .slice (some ⟨w.heap.size, 0, none⟩) (j + q) (2 * j) ∧ W.ownsRow w.heap.size 79 4 (.slice (some ⟨w.heap.size, 0, none⟩) (j + q) (2 * j)) (j + q) (css.reverse.flatten ++ (css.take q).flatten) ∧ Below w.heap.size w W ∧ w.heap.size < W.heap.size) (fun v8 x W => j - (intOf x).toNat)
        case atStart => exact ⟨0, rfl, Nat.zero_le _, rfl, by simpa using HOWN.out, hbw, hws⟩
        case round =>
          obtain ⟨q, rfl, hq, rfl, how, hbw, hws⟩ := hrel
          have c1 := (hbw.cell (p := ⟨m, 0, none⟩) hmlt).trans c0
          by_cases hql : q < j
          · have hil : q < css.length := by rw [HCL.out]; omega
            obtain ⟨ci, hci⟩ : ∃ ci, css[q]? = some ci := ⟨_, List.getElem?_eq_getElem hil⟩
            obtain ⟨v, hv⟩ : ∃ v, vs[q]? = some v := ⟨_, List.getElem?_eq_getElem (by rw [HN.out]; omega)⟩
            obtain ⟨b, eb, hbl, hR⟩ := HCR.out q ci hci
            subst eb
            obtain ⟨nI, sI, aI, mI, cI, rfl⟩ := (HREP.out q v ci hv hci).cells
            have hR' := hide (range_below hR hbl hbw)
            have hin : (q : Int) < j := by omega
            have hin2 : q < j := by omega
            have HFL : Hid ((css.take (q + 1)).flatten = (css.take q).flatten ++ [.int .i64 (kind v), .int .i64 nI, .string (str sI), .slice aI mI cI]) := by
              show _ = _
              rw [List.take_add_one, hci]
              simp
            have HOW := hide (how.alloc (.cells #[.int .i64 (kind v), .int .i64 nI, .string (str sI), .slice aI mI cI] 79))
            have HNEW : Hid (∀ q u, [Value.int .i64 (kind v), .int .i64 nI, .string (str sI), .slice aI mI cI][q]? = some u → (wr.alloc (.cells #[.int .i64 (kind v), .int .i64 nI, .string (str sI), .slice aI mI cI] 79)).cell? ((⟨wr.heap.size, 0, none⟩ : Addr).add q) = some u) := World.news_of_block (cs := #[.int .i64 (kind v), .int .i64 nI, .string (str sI), .slice aI mI cI]) (t := 79) (fr := (0, 0)) (heap_alloc_new wr _)
            have hd2 : decide ((q : Int) < j) = true := decide_eq_true (by omega)
            clear hR how hil hv hci
            generalize kind v = kv at *
            go_wp2_with (first | (refine wpList_load_mid rfl 79 _ rfl b (q * 4) rfl [.int .i64 kv, .int .i64 nI, .string (str sI), .slice aI mI cI] _ hR'.out Try.underlying79 rfl (info79 _ rfl) ?_) | (at_builtin; refine wpList_append_fits _ rfl _ _ 61 rfl w.heap.size 79 iv 4 Try.underlying61 hiv hsz w.heap.size (j + q) (2 * j) _ rfl HOW.out ⟨wr.heap.size, 0, none⟩ 1 1 [.int .i64 kv, .int .i64 nI, .string (str sI), .slice aI mI cI] rfl rfl HNEW.out (by simp [Value.oneCell']) (by omega) ?_; intro w5 ow5 gr5))
            go_roundw
            case rel =>
              refine ⟨q + 1, by go_num, by omega, rfl, ?_, below_grown (below_alloc hbw) gr5 (fun k hk => by cases hk; exact Nat.le_refl _), ?_⟩
              · rw [HFL.out, ← List.append_assoc]; exact ow5
              · have := gr5.size
                simp at this
                omega
            case measure => simp [intOf]; omega
          · have eq : q = j := by omega
            subst eq
            have hd2 : decide ((q : Int) < q) = false := decide_eq_false (by omega)
            have hen := echo_end (W := wr) (us := vs.reverse ++ vs) (css := css.reverse ++ css) (B := w.heap.size) (n := q + q) (cap := 2 * q) HH.out hbw (Nat.le_refl _) (by simp [HN.out]) (by simp [HCL.out, HN.out]) (fun cs hcs => by
              rcases List.mem_append.1 hcs with h | h
              · exact HC4.out cs (by simpa using h)
              · exact HC4.out cs h) (by
              rw [List.flatten_append]
              rw [List.take_of_length_le (by rw [HCL.out]; omega)] at how
              exact how) (fun i v cs hv hcs => by
              by_cases hi : i < q
              · rw [List.getElem?_append_left (by rw [List.length_reverse, HN.out]; exact hi), List.getElem?_reverse (by rw [HN.out]; exact hi), HN.out] at hv
                rw [List.getElem?_append_left (by rw [List.length_reverse, HCL.out]; exact hi), List.getElem?_reverse (by rw [HCL.out]; exact hi), HCL.out] at hcs
                exact HREP.out _ v cs hv hcs
              · rw [List.getElem?_append_right (by rw [List.length_reverse, HN.out]; omega), List.length_reverse, HN.out] at hv
                rw [List.getElem?_append_right (by rw [List.length_reverse, HCL.out]; omega), List.length_reverse, HCL.out] at hcs
                exact HREP.out _ v cs hv hcs)
            have HEN := hide hen
            have z1 : wr.frozen? ⟨m, 0, none⟩ = false := by
              obtain ⟨_, _, hm63, _⟩ := HH.out
              exact frozen_of_row wr m 0 _ _ ((hbw.block m hmlt).trans hm63)
            clear how hen
            go_wp2_with fail
            go_ret
            rw [HC.out]
            exact ⟨rfl, HEN.out⟩
end
end Go.Proofs.Qxb6500606a
