/-
  The model valsm: Neg. (Seat 606 alone.)
-/
import Derived.Test.Qxb6500606aMWords2
namespace Go.Proofs.Qxb6500606a
open Go.ChangeShapes Go.WideShapes Go.ChangeAt Go.RowKit
attribute [local go_sem] str_size str_app str_app1 str_1app str_toList str_get
set_option linter.unusedVariables false

theorem MMoved.far {W w1 : World} {m : Nat} {g : Option Nat} {vs : St} (h : MMoved W m g vs w1) {b : Nat} (hl : b < W.heap.size) (h1 : b ≠ m) (h2 : g ≠ some b) (j : Nat) : w1.cell? ⟨b, j, none⟩ = W.cell? ⟨b, j, none⟩ := by
  obtain ⟨g', _, _, ho⟩ := h
  exact World.cell?_of_block (ho.block b hl (by rintro (e | e); exact h1 e; exact h2 e))
section
variable {w : World} {m : Nat} {g : Option Nat} {vs : St}
set_option maxRecDepth 100000 in
set_option maxHeartbeats 4000000 in
theorem mNeg (h : MStk w m g vs) (hok : Okay vs) (hwf : ∀ v ∈ vs, Wf v) : MWord 54 w m g (negF vs) := by
  by_cases h0 : vs.length = 0
  · exact mNeg_under h h0
  · obtain ⟨b, cap, cs, c0, hR, hv, hbl, hgb⟩ := h.hasTop (by omega)
    have hlt := hok.top (by omega)
    have hw := hwf _ (List.mem_of_getElem? (top_at (by omega)))
    have hh := hide (hasI_calls _ hw)
    have q2 := canI_neg hw
    obtain ⟨p, hp⟩ : ∃ p, vs.length = p + 1 := ⟨vs.length - 1, by omega⟩
    have hp4 : p < 5 := by have := hok.1; omega
    have h5 := hok.1
    have hn1 : 1 ≤ vs.length := by omega
    have HH := hide h
    by_cases hc : canNeg (top vs) = true
    · rw [hc] at q2
      rcases kinds5 hw with hk | hk | hk | hk
      · obtain ⟨x, ex, rfl, hx⟩ := hv.ofInt hk
        rw [hp] at c0
        rw [hp, Nat.add_sub_cancel] at hR
        have hR' := hide hR
        have hbW : Below w.heap.size w (w.alloc (.cells #[.int .i64 1, .int .i64 x, .string (str []), .slice none 0 0] 79)) := below_alloc (Below.refl _ _)
        have hput := hide (put_calls (h.below hbW) hok.1 1 (by omega) (.int (wr (0 - x)) (wr_i64 _)) (wf_vint (wr_i64 _)) (by have := text_vint (wr (0 - x)); omega))
        have HR : Hid (negF vs = putF 1 (vint (wr (0 - x))) vs) := by
          show negF vs = _
          rw [putF_room (text_vint _) h5 (by omega) hn1]
          unfold negF; rw [if_neg h0, if_pos hc, ex]; rfl
        have hwr : wrap64 (-x) = wr (0 - x) := by rw [← wr_eq]; congr 1; omega
        have hwr2 : wrap64 (0 - x) = wr (0 - x) := wr_eq _
        have HBW := hide hbW
        rw [hk] at hh q2
        clear h hok hwf h0 hR hv hw hlt hp hc hk ex hbW
        generalize wr (0 - x) = wx at *
        unfold MWord
        go_enter Try.func54, Try.ntmps54
        go_wp2_with (first | (refine wpList_load_mid rfl 79 _ rfl b (p * 4) rfl [.int .i64 1, .int .i64 x, .string (str []), .slice none 0 0] _ hR'.out Try.underlying79 rfl (info79 _ rfl) ?_) | (go_at_call 83; refine (hh.out _ (by decide) _).mono ?_; rintro e w' ⟨rfl, hw⟩; subst w') | (go_at_call 81; refine hput.out.mono ?_; rintro e w1 ⟨rfl, hm1⟩))
        go_ret
        rw [HR.out]
        exact ⟨rfl, MMoved.after HBW.out hm1⟩
      · simp [canNeg, hk] at hc
      · simp [canNeg, hk] at hc
      · obtain ⟨l, r, et, hwl, hwr⟩ : ∃ l r, top vs = vpair l r ∧ Wf l ∧ Wf r := by
          rcases wf_cases hw with e | ⟨n, e, hn⟩ | ⟨s, e⟩ | ⟨l, r, e, _⟩ | ⟨l, r, e, h1, h2⟩
          · rw [e] at hk; cases hk
          · rw [e] at hk; cases hk
          · rw [e] at hk; cases hk
          · rw [e] at hk; cases hk
          · exact ⟨l, r, e, h1, h2⟩
        rw [et] at hv
        obtain ⟨k, css, rfl, hrow, hgk, _⟩ := hv.ofKids rfl
        have hpe : parts (vpair l r) = [l, r] := rfl
        rw [hpe] at hrow
        obtain ⟨kb, kc, csl, ek, hkb, _, hRl, hvl, hkbl⟩ := hrow.at (i := 0) (v := l) rfl
        obtain ⟨kb', kc', csr, ek', _, _, hRr, hvr, _⟩ := hrow.at (i := 1) (v := r) rfl
        rw [ek] at ek'
        cases ek'
        obtain ⟨n1, s1, a1, l1, p1, rfl⟩ := hvl.cells
        obtain ⟨n2, s2, a2, l2, p2, rfl⟩ := hvr.cells
        have hgkb : g ≠ some kb := hgk kb hkb
        have ek2 : k = .slice (some ⟨kb, 0, none⟩) 2 kc := ek
        subst ek2
        have hkm : kb ≠ m := by
          obtain ⟨_, _, hm63, _⟩ := id h
          obtain ⟨_, _, e7, _, h7, _⟩ := ownsRow_slice4 hrow.row
          cases e7
          obtain ⟨_, cur, h8, _⟩ := h7 kb rfl
          rintro rfl
          rw [hm63] at h8
          simp at h8
        rw [hp] at c0
        rw [hp, Nat.add_sub_cancel] at hR
        have hR' := hide hR
        have hW1 : Below w.heap.size w (w.alloc (.cells #[.int .i64 4, .int .i64 0, .string (str []), .slice (some ⟨kb, 0, none⟩) 2 kc] 79)) := below_alloc (Below.refl _ _)
        have hbox : (w.alloc (.cells #[.int .i64 4, .int .i64 0, .string (str []), .slice (some ⟨kb, 0, none⟩) 2 kc] 79)).heap[w.heap.size]? = some (.cells #[.int .i64 4, .int .i64 0, .string (str []), .slice (some ⟨kb, 0, none⟩) 2 kc] 79) := heap_alloc_new _ _
        obtain ⟨t0, t1, t2, t3⟩ := cells_of_range (range_below hRl hkbl hW1)
        obtain ⟨u0, u1, u2, u3⟩ := cells_of_range (range_below hRr hkbl hW1)
        have e04 : 0 * 4 = 0 := rfl
        have e14 : 1 * 4 = 4 := rfl
        rw [e04] at t0 t1 t2 t3
        rw [e14] at u0 u1 u2 u3
        have hmlt := h.lt.1
        have hglt := h.lt.2
        have htl : (text (vpair r l)).length ≤ 30 := by rw [et, text_pair] at hlt; rw [text_pair]; simp at hlt ⊢; omega
        have hbW : Below (w.alloc (.cells #[.int .i64 4, .int .i64 0, .string (str []), .slice (some ⟨kb, 0, none⟩) 2 kc] 79)).heap.size (w.alloc (.cells #[.int .i64 4, .int .i64 0, .string (str []), .slice (some ⟨kb, 0, none⟩) 2 kc] 79)) ((w.alloc (.cells #[.int .i64 4, .int .i64 0, .string (str []), .slice (some ⟨kb, 0, none⟩) 2 kc] 79)).alloc (.cells ((mC (kind r) n2 s2 (.slice a2 l2 p2)) ++ (mC (kind l) n1 s1 (.slice a1 l1 p1))).toArray 79)).drew := below_drew (below_alloc (Below.refl _ _))
        have hput := put_calls ((h.below hW1).below hbW) hok.1 1 (by omega) (((hvr.carry hW1).two (hvl.carry hW1) (h.below hW1).lt.2 _ rfl).carry (below_drew (Below.refl _ _))) (wf_pair hwr hwl) (by omega)
        have HR : Hid (negF vs = putF 1 (vpair r l) vs) := by
          show negF vs = _
          rw [putF_room htl h5 (by omega) hn1]
          unfold negF; rw [if_neg h0, if_pos hc, et]; rfl
        have HMV : Hid (∀ w1 vs', MMoved (w.alloc (.cells #[.int .i64 4, .int .i64 0, .string (str []), .slice (some ⟨kb, 0, none⟩) 2 kc] 79)) m g vs' w1 → MMoved w m g vs' w1) := fun w1 vs' hm => MMoved.after hW1 hm
        have hsz1 : (w.alloc (.cells #[.int .i64 4, .int .i64 0, .string (str []), .slice (some ⟨kb, 0, none⟩) 2 kc] 79)).heap.size = w.heap.size + 1 := by simp
        rw [hk] at hh q2
        have HRW := hide hput
        clear hR hv hw hlt hp hc hk et hrow hgk hRl hRr hvl hvr hwl hwr h0 hok hwf h hput htl
        generalize kind l = kl at *
        generalize kind r = kr at *
        generalize putF 1 (vpair r l) vs = PF at *
        generalize hWW : (w.alloc (.cells #[.int .i64 4, .int .i64 0, .string (str []), .slice (some ⟨kb, 0, none⟩) 2 kc] 79)) = W1 at *
        obtain ⟨x0, _, _, x3, _⟩ := cells4 hbox
        have HS9 : Hid (∀ w1 vs', MMoved (W1.alloc (.cells ((mC (kr) n2 s2 (.slice a2 l2 p2)) ++ (mC (kl) n1 s1 (.slice a1 l1 p1))).toArray 79)).drew m g vs' w1 → w1.cell? ⟨w.heap.size, 0, none⟩ = some (.int .i64 4) ∧ w1.cell? ⟨w.heap.size, 3, none⟩ = some (.slice (some ⟨kb, 0, none⟩) 2 kc) ∧ w1.cell? ⟨kb, 0, none⟩ = some (.int .i64 kl) ∧ w1.cell? ⟨kb, 1, none⟩ = some (.int .i64 n1) ∧ w1.cell? ⟨kb, 2, none⟩ = some (.string (str s1)) ∧ w1.cell? ⟨kb, 3, none⟩ = some (.slice a1 l1 p1) ∧ w1.cell? ⟨kb, 4, none⟩ = some (.int .i64 kr) ∧ w1.cell? ⟨kb, 5, none⟩ = some (.int .i64 n2) ∧ w1.cell? ⟨kb, 6, none⟩ = some (.string (str s2)) ∧ w1.cell? ⟨kb, 7, none⟩ = some (.slice a2 l2 p2)) := fun w1 vs' hm => by
          have hs2 : (W1.alloc (.cells ((mC (kr) n2 s2 (.slice a2 l2 p2)) ++ (mC (kl) n1 s1 (.slice a1 l1 p1))).toArray 79)).drew.heap.size = w.heap.size + 1 + 1 := by show (W1.alloc _).heap.size = _; simp [hsz1]
          have far : ∀ b j x, b < w.heap.size + 1 → b ≠ m → g ≠ some b → W1.cell? ⟨b, j, none⟩ = some x → w1.cell? ⟨b, j, none⟩ = some x := fun b j x hb hbm hbg hx => by
            rw [hm.far (by rw [hs2]; omega) hbm hbg j]
            exact (hbW.cell (p := ⟨b, j, none⟩) (by rw [hsz1]; exact hb)).trans hx
          have hgN : g ≠ some w.heap.size := fun e => by have := hglt _ e; omega
          exact ⟨far _ _ _ (by omega) (by omega) hgN x0, far _ _ _ (by omega) (by omega) hgN x3, far _ _ _ (by omega) hkm hgkb t0, far _ _ _ (by omega) hkm hgkb t1, far _ _ _ (by omega) hkm hgkb t2, far _ _ _ (by omega) hkm hgkb t3, far _ _ _ (by omega) hkm hgkb u0, far _ _ _ (by omega) hkm hgkb u1, far _ _ _ (by omega) hkm hgkb u2, far _ _ _ (by omega) hkm hgkb u3⟩
        have HBW := hide hbW
        have HWW := hide hWW
        have c1 : w.heap.size ≠ W1.heap.size := by omega
        have c2 : kb ≠ W1.heap.size := by omega
        have c3 : W1.heap.size ≠ w.heap.size := by omega
        have c4 : W1.heap.size ≠ kb := by omega
        clear hWW hbW hbox hW1 hsz1
        unfold MWord
        go_enter Try.func54, Try.ntmps54
        go_upto_region 9 with (first | (refine wpList_load_mid rfl 79 _ rfl b (p * 4) rfl [.int .i64 4, .int .i64 0, .string (str []), .slice (some ⟨kb, 0, none⟩) 2 kc] _ hR'.out Try.underlying79 rfl (info79 _ rfl) ?_) | (go_at_call 83; refine (hh.out _ (by decide) _).mono ?_; rintro e w' ⟨rfl, hw⟩; subst w'))
        rw [HWW.out]
        have t1' : W1.cell? ⟨kb, 1, none⟩ = some (.int .i64 n1) := t1
        have t2' : W1.cell? ⟨kb, 2, none⟩ = some (.string (str s1)) := t2
        have t3' : W1.cell? ⟨kb, 3, none⟩ = some (.slice a1 l1 p1) := t3
        have u1' : W1.cell? ⟨kb, 5, none⟩ = some (.int .i64 n2) := u1
        have u2' : W1.cell? ⟨kb, 6, none⟩ = some (.string (str s2)) := u2
        have u3' : W1.cell? ⟨kb, 7, none⟩ = some (.slice a2 l2 p2) := u3
        clear t1 t2 t3 u1 u2 u3
        go_region_held3 (fun w' => w'.cell? ⟨w.heap.size, 0, none⟩ = some (.int .i64 4) ∧ w'.cell? ⟨w.heap.size, 3, none⟩ = some (.slice (some ⟨kb, 0, none⟩) 2 kc) ∧ w'.cell? ⟨kb, 0, none⟩ = some (.int .i64 kl) ∧ w'.cell? ⟨kb, 1, none⟩ = some (.int .i64 n1) ∧ w'.cell? ⟨kb, 2, none⟩ = some (.string (str s1)) ∧ w'.cell? ⟨kb, 3, none⟩ = some (.slice a1 l1 p1) ∧ w'.cell? ⟨kb, 4, none⟩ = some (.int .i64 kr) ∧ w'.cell? ⟨kb, 5, none⟩ = some (.int .i64 n2) ∧ w'.cell? ⟨kb, 6, none⟩ = some (.string (str s2)) ∧ w'.cell? ⟨kb, 7, none⟩ = some (.slice a2 l2 p2))
          (go_keep)
          ((go_at_call 81; refine HRW.out.mono ?_; rintro e w1 ⟨rfl, hm1⟩; obtain ⟨k0, k1, k2, k3, k4, k5, k6, k7, k8, k9⟩ := HS9.out w1 _ hm1))
        all_goals
          go_wp2_with fail
          go_ret
          rw [HR.out]
          exact ⟨rfl, HMV.out _ _ (MMoved.after HBW.out hm1)⟩
    · have hcf : canNeg (top vs) = false := by simpa using hc
      rw [hcf] at q2
      have HR : Hid (negF vs = (5, vs)) := by
        show negF vs = _
        unfold negF; rw [if_neg h0, if_neg hc]
      obtain ⟨n, s, a, ml, mc, rfl⟩ := hv.cells
      rw [hp] at c0
      rw [hp, Nat.add_sub_cancel] at hR
      have hR' := hide hR
      clear h hok hwf h0 hR hv hw hlt hp hc
      generalize kind (top vs) = kk at *
      unfold MWord
      go_enter Try.func54, Try.ntmps54
      go_wp2_with (first | (refine wpList_load_mid rfl 79 _ rfl b (p * 4) rfl [.int .i64 kk, .int .i64 n, .string (str s), .slice a ml mc] _ hR'.out Try.underlying79 rfl (info79 _ rfl) ?_) | (go_at_call 83; refine (hh.out _ (by decide) _).mono ?_; rintro e w' ⟨rfl, hw⟩; subst w'))
      go_ret
      rw [HR.out]
      exact ⟨rfl, MMoved.below HH.out (below_alloc (Below.refl _ _))⟩
end
end Go.Proofs.Qxb6500606a
