/-
  The model valsm: Fold. (Seat 606 alone.)
-/
import Derived.Test.Qxb6500606aMAdd
import Derived.Deep.LoopGhost
namespace Go.Proofs.Qxb6500606a
open Go.ChangeShapes Go.WideShapes Go.ChangeAt Go.RowKit
attribute [local go_sem] str_size str_app str_app1 str_1app str_toList str_get
set_option linter.unusedVariables false

/-- A Val's row written over, cell by cell. -/
theorem row_over {W : World} {B : Nat} {x0 x1 x2 x3 : Value} (h : W.heap[B]? = some (.cells #[x0, x1, x2, x3] 79)) (y0 y1 y2 y3 : Value) : ((((W.setCell ⟨B, 0, none⟩ y0).setCell ⟨B, 1, none⟩ y1).setCell ⟨B, 2, none⟩ y2).setCell ⟨B, 3, none⟩ y3).heap[B]? = some (.cells #[y0, y1, y2, y3] 79) := by
  have h1 := heap_setCell_same W B 0 _ _ y0 h
  have h2 := heap_setCell_same _ B 1 _ _ y1 h1
  have h3 := heap_setCell_same _ B 2 _ _ y2 h2
  have h4 := heap_setCell_same _ B 3 _ _ y3 h3
  rw [h4]; rfl
/-- The rows to keep clear of: the stack's own, and a variable's. -/
abbrev ex2 (g : Option Nat) (N : Nat) : Nat → Prop := fun b => g = some b ∨ b = N
theorem MV.less {w : World} {g g' : Nat → Prop} (hs : ∀ b, g' b → g b) {v : V} {cs : List Value} (h : MV w g v cs) : MV w g' v cs :=
  h.keep fun b c e hne => ⟨e, fun hb => hne (hs b hb)⟩
section
variable {w : World} {m : Nat} {g : Option Nat} {vs : St}
set_option maxRecDepth 100000 in
set_option maxHeartbeats 8000000 in
theorem mFold (h : MStk w m g vs) (hok : Okay vs) (hwf : ∀ v ∈ vs, Wf v) : MWord 57 w m g (foldF vs) := by
  by_cases h0 : vs.length = 0
  · exact mFold_under h h0
  · obtain ⟨b, cap, cs, c0, hR, hv, hbl, hgb⟩ := h.hasTop (by omega)
    have hlt := hok.top (by omega)
    have hw := hwf _ (List.mem_of_getElem? (top_at (by omega)))
    have hh := hide (hasI_calls _ hw)
    have q4 := canI_iter hw
    obtain ⟨p, hp⟩ : ∃ p, vs.length = p + 1 := ⟨vs.length - 1, by omega⟩
    have hp4 : p < 5 := by have := hok.1; omega
    have h5 := hok.1
    have hn1 : 1 ≤ vs.length := by omega
    have HH := hide h
    have hmlt := h.lt.1
    have hglt := h.lt.2
    by_cases hc : canIter (top vs) = true
    · rw [hc] at q4
      obtain ⟨k2, css2, rfl, hrow2, hg2, hz2⟩ := hv.ofKids hc
      obtain ⟨a2, c2, rfl, _⟩ := ownsRow_slice4 hrow2.row
      rw [hp] at c0
      rw [hp, Nat.add_sub_cancel] at hR
      have hR' := hide hR
      have HR : Hid (foldF vs = match parts (top vs) with
       | [] => (8, vs)
       | v :: r => if (foldIn v r).1 ≠ 0 then ((foldIn v r).1, vs) else lay 1 (foldIn v r).2 vs) := by
        show foldF vs = _
        unfold foldF; rw [if_neg h0, if_pos hc]; rfl
      have hps := partsLe hw hc
      have hpl30 : (parts (top vs)).length ≤ 30 := by have := hps.2; omega
      have HPS : Hid (∀ u ∈ parts (top vs), Wf u ∧ (text u).length ≤ 30) := fun u hu => ⟨(hps.1 u hu).1, by have := (hps.1 u hu).2; omega⟩
      have HROW := hide hrow2
      clear h hok hwf h0 hR hv hw hlt hp hps hg2 hz2 hrow2 hc hgb
      generalize kind (top vs) = kk at *
      generalize hPP : parts (top vs) = P at *
      clear hPP
      cases P with
      | nil =>
        unfold MWord
        go_enter Try.func57, Try.ntmps57
        go_wp2_with (first | (refine wpList_load_mid rfl 79 _ rfl b (p * 4) rfl [.int .i64 kk, .int .i64 0, .string (str []), .slice a2 ([] : List V).length c2] _ hR'.out Try.underlying79 rfl (info79 _ rfl) ?_) | (go_at_call 83; refine (hh.out _ (by decide) _).mono ?_; rintro e w' ⟨rfl, hw⟩; subst w'))
        go_ret
        rw [HR.out]
        exact ⟨rfl, MMoved.below HH.out (below_alloc (Below.refl _ _))⟩
      | cons v0 P0 =>
        obtain ⟨kb, kc, cs0, ek, _, _, hR0, hv0, hkbl⟩ := HROW.out.at (i := 0) (v := v0) rfl
        have ek' : a2 = some ⟨kb, 0, none⟩ := by cases ek; rfl
        subst ek'
        clear ek
        obtain ⟨n0, s0, a0, l0, p0, rfl⟩ := hv0.cells
        have hW1 : Below w.heap.size w (w.alloc (.cells #[.int .i64 kk, .int .i64 0, .string (str []), .slice (some ⟨kb, 0, none⟩) (v0 :: P0).length c2] 79)) := below_alloc (Below.refl _ _)
        have hR0' := hide (range_below hR0 hkbl hW1)
        have HV0 := hide hv0
        have hnb : (v0 :: P0).length ≤ 30 := hpl30
        generalize hN : (v0 :: P0).length = n at *
        have HN := hide hN
        have hn0 : 0 < n := by rw [← hN]; simp
        have hne : ((n : Int) == 0) = false := beq_false_of_ne (by omega)
        clear hN hR0 hv0 hW1
        unfold MWord
        go_enter Try.func57, Try.ntmps57
        go_wp2_with (first | (refine wpList_load_mid rfl 79 _ rfl b (p * 4) rfl [.int .i64 kk, .int .i64 0, .string (str []), .slice (some ⟨kb, 0, none⟩) n c2] _ hR'.out Try.underlying79 rfl (info79 _ rfl) ?_) | (refine wpList_load_mid rfl 79 _ rfl kb (0 * 4) rfl [.int .i64 (kind v0), .int .i64 n0, .string (str s0), .slice a0 l0 p0] _ hR0'.out Try.underlying79 rfl (info79 _ rfl) ?_) | (go_at_call 83; refine (hh.out _ (by decide) _).mono ?_; rintro e w' ⟨rfl, hw⟩; subst w'))
        have hwW : Below w.heap.size w ((w.alloc (.cells #[.int .i64 kk, .int .i64 0, .string (str []), .slice (some ⟨kb, 0, none⟩) n c2] 79)).alloc (.cells #[.int .i64 (kind v0), .int .i64 n0, .string (str s0), .slice a0 l0 p0] 79)) := below_alloc (below_alloc (Below.refl _ _))
        have HMVE : Hid (∀ (W : World) (i : Nat) (e : V), Below w.heap.size w W → (v0 :: P0)[i]? = some e → ∃ (tE nE : Int) (sE : List UInt8) (aE : Option Addr) (lE cE : Nat), W.rangeAt kb (i * 4) (mC tE nE sE (.slice aE lE cE)) ∧ MV W (ex2 g (w.heap.size + 1)) e (mC tE nE sE (.slice aE lE cE))) := fun W i e hW he => by
          obtain ⟨kb', kc', cse, ek, _, _, hRe, hve, hkl⟩ := HROW.out.at he
          cases ek
          obtain ⟨nE, sE, aE, lE, cE, rfl⟩ := hve.cells
          refine ⟨_, nE, sE, aE, lE, cE, range_below hRe hkl hW, hve.keep fun b c hb hx => ⟨(hW.block b (lt_of_heap hb)).trans hb, ?_⟩⟩
          have := lt_of_heap hb
          rintro (e1 | e1)
          · exact hx e1
          · omega
        go_loopg [6] (n - 1) (fun k x W => ∃ (j : Nat) (acc : V) (ta na : Int) (sa : List UInt8) (aa : Option Addr) (la ca : Nat), x = .int .i64 j ∧ 1 ≤ j ∧ j ≤ n ∧ k = n - j ∧ Below w.heap.size w W ∧ w.heap.size + 1 < W.heap.size ∧ W.heap[w.heap.size]? = some (.cells #[.int .i64 kk, .int .i64 0, .string (str []), .slice (some ⟨kb, 0, none⟩) n c2] 79) ∧ W.heap[w.heap.size + 1]? = some (.cells #[.int .i64 ta, .int .i64 na, .string (str sa), .slice aa la ca] 79) ∧ MV W (ex2 g (w.heap.size + 1)) acc (mC ta na sa (.slice aa la ca)) ∧ Wf acc ∧ (text acc).length ≤ 30 ∧ foldIn v0 P0 = foldIn acc ((v0 :: P0).drop j))
        case atStart =>
          obtain ⟨tE, nE, sE, aE, lE, cE, _, hm0⟩ := HMVE.out _ 0 v0 hwW rfl
          refine ⟨1, v0, _, n0, s0, a0, l0, p0, rfl, Nat.le_refl _, hn0, rfl, hwW, by simp, heap_alloc2_old w _ _, heap_alloc2_new w _ _, ?_, (HPS.out v0 (by simp)).1, (HPS.out v0 (by simp)).2, rfl⟩
          refine HV0.out.keep fun b c hb hx => ⟨(hwW.block b (lt_of_heap hb)).trans hb, ?_⟩
          have := lt_of_heap hb
          rintro (e1 | e1)
          · exact hx e1
          · omega
        case round =>
          obtain ⟨j, acc, ta, na, sa, aa, la, ca, rfl, hj1, hj, hgk, hbw, hws, hrN, hrV, hma, hwa, hla, hfi⟩ := hrel
          have d3 := (cells4 hrN).2.2.2.1
          by_cases hjl : j < n
          · obtain ⟨e, he⟩ : ∃ e, (v0 :: P0)[j]? = some e := ⟨_, List.getElem?_eq_getElem (by rw [HN.out]; exact hjl)⟩
            obtain ⟨te, ne, se, ae, le, ce, hRe, hme⟩ := HMVE.out wr j e hbw he
            have wv := HPS.out e (List.mem_of_getElem? he)
            have HST := foldIn_step (acc := acc) he
            rw [← hfi] at HST
            have hplus : ∀ W, Below wr.heap.size wr W → Calls Try.prog 82 #[.agg #[.int .i64 ta, .int .i64 na, .string (str sa), .slice aa la ca], .agg #[.int .i64 te, .int .i64 ne, .string (str se), .slice ae le ce]] W (MPlusOut W (ex2 g (w.heap.size + 1)) (plusF acc e)) := fun W hW => mplus_calls (hma.carry hW) (hme.carry hW) hwa wv.1 (fun x hx => by
              have := hW.size
              rcases hx with hx | hx
              · have := hglt x hx; have := hbw.size; omega
              · omega) hla wv.2
            have HWP : Hid ((plusF acc e).1 = 0 → Wf (plusF acc e).2 ∧ (text (plusF acc e).2).length ≤ 30) := fun q => ⟨wf_plus hwa wv.1 q, plusF_text q⟩
            obtain ⟨x0, x1, x2, x3, _⟩ := cells4 hrV
            obtain ⟨y0, y1, y2, y3⟩ := cells_of_range hRe
            have hkw : kb < wr.heap.size := Nat.lt_of_lt_of_le hkbl hbw.size
            have hNw : w.heap.size < wr.heap.size := by omega
            have HS9 : Hid (∀ w', Below wr.heap.size wr w' → w'.cell? ⟨w.heap.size + 1, 0, none⟩ = some (.int .i64 ta) ∧ w'.cell? ⟨w.heap.size + 1, 1, none⟩ = some (.int .i64 na) ∧ w'.cell? ⟨w.heap.size + 1, 2, none⟩ = some (.string (str sa)) ∧ w'.cell? ⟨w.heap.size + 1, 3, none⟩ = some (.slice aa la ca) ∧ w'.cell? ⟨w.heap.size, 3, none⟩ = some (.slice (some ⟨kb, 0, none⟩) n c2) ∧ w'.cell? ⟨kb, j * 4, none⟩ = some (.int .i64 te) ∧ w'.cell? ⟨kb, j * 4 + 1, none⟩ = some (.int .i64 ne) ∧ w'.cell? ⟨kb, j * 4 + 2, none⟩ = some (.string (str se)) ∧ w'.cell? ⟨kb, j * 4 + 3, none⟩ = some (.slice ae le ce)) := fun w' hb' => ⟨(hb'.cell (p := ⟨w.heap.size + 1, 0, none⟩) hws).trans x0, (hb'.cell (p := ⟨w.heap.size + 1, 1, none⟩) hws).trans x1, (hb'.cell (p := ⟨w.heap.size + 1, 2, none⟩) hws).trans x2, (hb'.cell (p := ⟨w.heap.size + 1, 3, none⟩) hws).trans x3, (hb'.cell (p := ⟨w.heap.size, 3, none⟩) hNw).trans d3, (hb'.cell (p := ⟨kb, j * 4, none⟩) hkw).trans y0, (hb'.cell (p := ⟨kb, j * 4 + 1, none⟩) hkw).trans y1, (hb'.cell (p := ⟨kb, j * 4 + 2, none⟩) hkw).trans y2, (hb'.cell (p := ⟨kb, j * 4 + 3, none⟩) hkw).trans y3⟩
            have hd1 : decide ((j : Int) < n) = true := decide_eq_true (by omega)
            have hpl := hide hplus
            have HST' := hide HST
            have HRN := hide (And.intro hrN hrV)
            clear HST hplus hma hme hwa wv hfi he hrN hrV hRe
            generalize plusF acc e = r at *
            unfold MPlusOut at hpl
            go_upto_region 13 with fail
            have m0 := World.new_ne wr _ x0
            have m1 := World.new_ne wr _ x1
            have m2 := World.new_ne wr _ x2
            have m3 := World.new_ne wr _ x3
            have m4 := World.new_ne wr _ d3
            have m5 := World.new_ne wr _ y0
            have m6 := World.new_ne wr _ y1
            have m7 := World.new_ne wr _ y2
            have m8 := World.new_ne wr _ y3
            have hj0 : (0 : Int) ≤ (j : Int) := Int.natCast_nonneg _
            have hjn : (j : Int) < n := by omega
            have HSZ : Hid (∀ o : Obj, wr.heap.size ≤ ((wr.alloc o).drew).heap.size ∧ wr.heap.size ≤ wr.drew.heap.size) := fun o => ⟨by show wr.heap.size ≤ (wr.alloc o).heap.size; simp, Nat.le_refl _⟩
            go_cut [7, 8] from 36 to 56 (fun s7 s8 wx => ∃ (B7 : Nat) (tR nR : Int) (sR : List UInt8) (aR : Option Addr) (lR cR : Nat), s7 = .pointer (some ⟨B7, 0, none⟩) ∧ s8 = .int .i64 r.1 ∧ Below wr.heap.size wr wx ∧ wr.heap.size ≤ B7 ∧ wx.heap[B7]? = some (.cells #[.int .i64 tR, .int .i64 nR, .string (str sR), .slice aR lR cR] 79) ∧ (r.1 = 0 → MV wx (ex2 g (w.heap.size + 1)) r.2 (mC tR nR sR (.slice aR lR cR))))
            case first =>
              go_region_held3 (fun w' => w'.cell? ⟨w.heap.size + 1, 0, none⟩ = some (.int .i64 ta) ∧ w'.cell? ⟨w.heap.size + 1, 1, none⟩ = some (.int .i64 na) ∧ w'.cell? ⟨w.heap.size + 1, 2, none⟩ = some (.string (str sa)) ∧ w'.cell? ⟨w.heap.size + 1, 3, none⟩ = some (.slice aa la ca) ∧ w'.cell? ⟨w.heap.size, 3, none⟩ = some (.slice (some ⟨kb, 0, none⟩) n c2) ∧ w'.cell? ⟨kb, j * 4, none⟩ = some (.int .i64 te) ∧ w'.cell? ⟨kb, j * 4 + 1, none⟩ = some (.int .i64 ne) ∧ w'.cell? ⟨kb, j * 4 + 2, none⟩ = some (.string (str se)) ∧ w'.cell? ⟨kb, j * 4 + 3, none⟩ = some (.slice ae le ce))
                (go_keep)
                ((go_at_call 82; refine (hpl.out _ (by first | exact below_drew (below_alloc (Below.refl _ _)) | exact below_drew (Below.refl _ _))).mono ?_; rintro e w1 ⟨tR, nR, sR, aR, lR, cR, rfl, hb1, hmv⟩; have hge : wr.heap.size ≤ w1.heap.size := Nat.le_trans (by first | exact (HSZ.out (.cells #[] 79)).2 | exact (HSZ.out _).1) hb1.size; have nm : w1.heap.size ≠ w.heap.size := (by omega); have nm2 : w1.heap.size ≠ w.heap.size + 1 := (by omega); have nb : w1.heap.size ≠ kb := (by omega); have nm' : wr.heap.size ≠ w.heap.size := (by omega); have nm2' : wr.heap.size ≠ w.heap.size + 1 := (by omega); have nb' : wr.heap.size ≠ kb := (by omega); obtain ⟨k0, k1, k2, k3, k4, k5, k6, k7, k8⟩ := HS9.out w1 (below_next (by first | exact below_drew (below_alloc (Below.refl _ _)) | exact below_drew (Below.refl _ _)) hb1); try have zb := boxd hb1))
              all_goals go_wp2_with fail
              all_goals go_meet
              all_goals first
                | exact ⟨_, tR, nR, sR, aR, lR, cR, rfl, rfl, below_alloc (below_next (below_drew (Below.refl _ _)) hb1), hge, heap_alloc_new _ _, fun e => (hmv e).carry (below_alloc (Below.refl _ _))⟩
                | (refine ⟨_, tR, nR, sR, aR, lR, cR, rfl, rfl, ?_, Nat.le_refl _, zb.2.2.2 _ _ _ _, fun e => (hmv e).keepZ zb.2.2.1 (fun x c hne hx => ?_)⟩
                   · exact ((((below_next (below_drew (below_alloc (Below.refl _ _))) hb1).setCell (p := ⟨wr.heap.size, 0, none⟩) (Nat.le_refl _) _).setCell (p := ⟨wr.heap.size, 1, none⟩) (Nat.le_refl _) _).setCell (p := ⟨wr.heap.size, 2, none⟩) (Nat.le_refl _) _).setCell (p := ⟨wr.heap.size, 3, none⟩) (Nat.le_refl _) _
                   · rw [Below.heap_setCell _ _ _ x hne, Below.heap_setCell _ _ _ x hne, Below.heap_setCell _ _ _ x hne, Below.heap_setCell _ _ _ x hne]; exact hx)
            case rest =>
            obtain ⟨B7, tR, nR, sR, aR, lR, cR, rfl, rfl, hb2, hB7, hrB, hmv⟩ := hcut
            have hb3 := below_next hbw hb2
            have HRN2 := hide ((hb2.block _ (lt_of_heap HRN.out.1)).trans HRN.out.1)
            have HRV2 := hide ((hb2.block _ (lt_of_heap HRN.out.2)).trans HRN.out.2)
            by_cases hr : r.1 = 0
            · have hq1 : (r.1 != 0) = false := by simp [hr]
              have hFI := HST'.out
              rw [if_neg (by simp [hr])] at hFI
              have HFI := hide hFI
              have HWR := hide (HWP.out hr)
              have HMV := hide (hmv hr)
              have HRB := hide hrB
              clear hFI hr hmv hrB HST' HWP hpl HS9 x0 x1 x2 x3 y0 y1 y2 y3 d3
              go_wp2_with (first | (refine wpList_load_row rfl 79 _ rfl B7 rfl 79 _ (0, 0) _ HRB.out Try.underlying79 rfl info79a ?_) | (refine wpList_store_row rfl 79 _ _ rfl (w.heap.size + 1) _ rfl rfl 79 _ HRV2.out info79a rfl (all4 _ _ _ _ _ _) ?_))
              go_roundg (n - (j + 1))
              case measure => omega
              case rel =>
                refine ⟨j + 1, r.2, tR, nR, sR, aR, lR, cR, by go_num, by omega, by omega, rfl, below_setRow hb3 (by omega) _, ?_, (setRow_other _ _ _ _ (by omega)).trans HRN2.out, setRow_heap _ _ _ _ _ _ HRV2.out, ?_, HWR.out.1, HWR.out.2, HFI.out⟩
                · rw [size_setRow]; have := hb2.size; omega
                · refine HMV.out.keep fun b c hb hx => ⟨(setRow_other _ _ _ _ (fun e => hx (.inr e))).trans hb, hx⟩
            · have hq1 : (r.1 != 0) = true := by simpa using hr
              have hFI := HST'.out
              rw [if_pos hr] at hFI
              have HRR : Hid (foldF vs = (r.1, vs)) := by
                show foldF vs = _
                rw [HR.out]
                show (if (foldIn v0 P0).1 ≠ 0 then ((foldIn v0 P0).1, vs) else lay 1 (foldIn v0 P0).2 vs) = _
                rw [hFI]
                show (if r.1 ≠ 0 then (r.1, vs) else _) = _
                rw [if_pos hr]
              clear hFI hr hmv hrB HST' HWP hpl HS9 x0 x1 x2 x3 y0 y1 y2 y3 d3
              go_wp2_with fail
              go_ret
              rw [HRR.out]
              exact ⟨rfl, MMoved.below HH.out hb3⟩
          · have ej : j = n := by omega
            have HFI : Hid (foldIn v0 P0 = (0, acc)) := by
              show foldIn v0 P0 = _
              rw [hfi, List.drop_of_length_le (by rw [HN.out]; omega)]; rfl
            have hd1 : decide ((j : Int) < n) = false := decide_eq_false (by omega)
            have hput := hide (put_calls (HH.out.below hbw) h5 1 hn1 (hma.less (fun b hb => .inl hb)) hwa (by omega))
            have HRV := hide hrV
            have HRR : Hid (foldF vs = putF 1 acc vs) := by
              show foldF vs = _
              rw [HR.out]
              show (if (foldIn v0 P0).1 ≠ 0 then ((foldIn v0 P0).1, vs) else lay 1 (foldIn v0 P0).2 vs) = _
              rw [HFI.out, putF_room hla h5 (by omega) hn1]; rfl
            clear hma hwa hfi hrN hrV HMVE
            go_wp2_with (first | (refine wpList_load_row rfl 79 _ rfl (w.heap.size + 1) rfl 79 _ (0, 0) _ HRV.out Try.underlying79 rfl info79a ?_) | (go_at_call 81; refine hput.out.mono ?_; rintro e w7 ⟨rfl, hm7⟩))
            go_ret
            rw [HRR.out]
            exact ⟨rfl, MMoved.after hbw hm7⟩
    · have hcf : canIter (top vs) = false := by simpa using hc
      rw [hcf] at q4
      have HR : Hid (foldF vs = (5, vs)) := by
        show foldF vs = _
        unfold foldF; rw [if_neg h0, if_neg hc]
      obtain ⟨n, s, a, ml, mc, rfl⟩ := hv.cells
      rw [hp] at c0
      rw [hp, Nat.add_sub_cancel] at hR
      have hR' := hide hR
      clear h hok hwf h0 hR hv hw hlt hp hc
      generalize kind (top vs) = kk at *
      unfold MWord
      go_enter Try.func57, Try.ntmps57
      go_wp2_with (first | (refine wpList_load_mid rfl 79 _ rfl b (p * 4) rfl [.int .i64 kk, .int .i64 n, .string (str s), .slice a ml mc] _ hR'.out Try.underlying79 rfl (info79 _ rfl) ?_) | (go_at_call 83; refine (hh.out _ (by decide) _).mono ?_; rintro e w' ⟨rfl, hw⟩; subst w'))
      go_ret
      rw [HR.out]
      exact ⟨rfl, MMoved.below HH.out (below_alloc (Below.refl _ _))⟩
end
end Go.Proofs.Qxb6500606a
