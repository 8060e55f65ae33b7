/-
  The model valsm: Cons. (Seat 606 alone.)
-/
import Derived.Test.Qxb6500606aMAdd
import Derived.Deep.RegionLaw
namespace Go.Proofs.Qxb6500606a
open Go.ChangeShapes Go.WideShapes Go.ChangeAt Go.RowKit
attribute [local go_sem] str_size str_app str_app1 str_1app str_toList str_get
set_option linter.unusedVariables false

/-- 'append(x, y...)', y a row of values: as a step of a region that draws. -/
theorem step_append_kids {w : World} {ops : Array Oper} {o : Oper} {a : Act} {K : Act → World → Prop} {Q : Exit → Act → World → Prop} {E : Prop} (hgd : o.guard = none) (s x : Operand) (ho : o.op = .call { callee := .builtin .append, args := #[s, x], argTypes := #[61, 61] })
    (base : Nat) (v : Value) (n : Nat) (xs : List Value) (hs : a.eval s = v) (hown : w.ownsRow base 79 4 v n xs) (hbase : base ≤ w.heap.size) (y : Value) {g : Nat → Prop} {css : List (List Value)} {ps : List V} (hx : a.eval x = y) (hr : MRow w g y css ps) (hz : ps = [] → y = .slice none 0 0) (hn : n + ps.length ≤ 100000)
    (h : ∀ a' c' w', w'.ownsRow base 79 4 (.slice a' (n + ps.length) c') (n + ps.length) (xs ++ css.flatten) → w.grownBy w' v.ownBlock → ((Value.slice a' (n + ps.length) c').ownBlock = v.ownBlock ∨ (Value.slice a' (n + ps.length) c').ownBlock = some w.heap.size) → (ps = [] → .slice a' (n + ps.length) c' = v) → K (a.put o.dst (.slice a' (n + ps.length) c')) w') :
    if Region.wanted o (yielded ops a.tmps) = true then Oper.wp Try.prog o a w K Q else E := by
  have hw : Region.wanted o (yielded ops a.tmps) = true := by simp [Region.wanted, hgd]
  rw [if_pos hw]
  obtain ⟨i0, hi0, hz0, hz1, hz2⟩ := info_parts infoM
  obtain ⟨hl, h1, hc⟩ := hr.news
  by_cases hp : ps = []
  · have hy := hz hp
    subst hp
    have hf : css.flatten = [] := List.eq_nil_of_length_eq_zero (by rw [hl]; rfl)
    have hrun := run_append_owned_none (P := Try.prog) (w := w) base 61 o.type 79 i0 4 Try.underlying61 hi0 v n xs hown
    have hfm : ∃ a' c', v = .slice a' n c' := by
      rcases hown.2 with ⟨e, hn0⟩ | ⟨g', cap, cur, e, _⟩
      · exact ⟨none, 0, by rw [e, hn0]⟩
      · exact ⟨_, cap, e⟩
    obtain ⟨a', c', rfl⟩ := hfm
    have hK := h a' c' w (by rw [hf, List.append_nil]; exact hown) (grown_refl _ _) (.inl rfl) (fun _ => rfl)
    unfold Oper.wp
    simp [execOp, ho, resolve, invoke, builtin, hs, hx.trans hy, hrun, Result.andThen]
    exact hK
  · have hpl : 0 < ps.length := List.length_pos_iff.2 hp
    obtain ⟨ay, cy, rfl, _, h2, h3⟩ := ownsRow_slice4 hr.row
    obtain ⟨b, hb⟩ := h3 hpl
    obtain ⟨rfl, cur, _⟩ := h2 b hb
    refine wp_append_lies w s x 61 ho base 79 i0 _ 4 56 Try.underlying61 hi0 hz0 hz1 hz2 rfl (by omega) v n xs hs hown ⟨b, 0, none⟩ ps.length cy css.flatten hx hl (hc b hb) h1 hpl (by unfold maxLen; omega) (by omega) hbase w.heap.size rfl ?_
    intro g' cap' w' ho' hg' hat hlt
    refine h _ cap' w' ho' hg' ?_ (fun e => absurd e hp)
    rcases hat with e | e
    · exact .inl e.symm
    · exact .inr (by rw [← e]; rfl)
theorem MV.singleton_row {w : World} {g : Nat → Prop} {v : V} {cs : List Value} (h : MV w g v cs) (k : Value) (hr : w.ownsRow 0 79 4 k 1 cs) : MRow w g k [cs] [v] :=
  ⟨by simpa using hr, rfl, (fun c hc => by simp at hc; subst hc; exact h.len), fun i e c he hc => by
    rcases (show i = 0 by have := (List.getElem?_eq_some_iff.1 he).1; simp at this; omega) with rfl
    simp at he hc; subst he hc; exact h⟩
theorem ownsRow_setCell_ne {w : World} {base : Nat} {k : Value} {n : Nat} {xs : List Value} (h : w.ownsRow base 79 4 k n xs) {a : Addr} (hne : ∀ b, k.ownBlock = some b → b ≠ a.block) (u : Value) : (w.setCell a u).ownsRow base 79 4 k n xs :=
  ⟨h.1, orMap h.2 id fun ⟨g, cap, cur, h1, h2, h3, h4⟩ => ⟨g, cap, cur, h1, h2, (Below.heap_setCell w a u g (hne g (by rw [h1]; rfl))).trans h3, h4⟩⟩
theorem wf_cons {x l : V} (hx : Wf x) (hl : Wf l) (hL : isL l = true) : Wf (vcons x l) := ⟨rfl, .inr (.inr (.inl ⟨rfl, rfl, hL, hx, hl⟩))⟩
section
variable {w : World} {m : Nat} {g : Option Nat} {vs : St}
set_option maxRecDepth 100000 in
set_option maxHeartbeats 4000000 in
theorem mCons (h : MStk w m g vs) (hok : Okay vs) (hwf : ∀ v ∈ vs, Wf v) : MWord 51 w m g (consF vs) := by
  by_cases h0 : vs.length < 2
  · exact mCons_under h h0
  · obtain ⟨b, cap, cs, cs2, c0, hR, hv, hR2, hv2, hbl, hgb⟩ := h.hasTwo (by omega)
    have hwt := hwf _ (List.mem_of_getElem? (top_at (by omega)))
    have hws := hwf _ (List.mem_of_getElem? (sub_at (by omega)))
    have hlt := hok.top (by omega)
    have hls := hok.subtop (by omega)
    have HC : Hid (consF vs = if kind (subtop vs) = 3 then (if 30 < (text (vcons (top vs) (subtop vs))).length then (7, vs) else lay 2 (vcons (top vs) (subtop vs)) vs) else (2, vs)) := by
      show consF vs = _
      unfold consF; rw [if_neg h0]
    obtain ⟨q, hq⟩ : ∃ q : Nat, (vs.length : Int) - 1 = q := ⟨vs.length - 1, by omega⟩
    obtain ⟨p, hp⟩ : ∃ p : Nat, (vs.length : Int) - 2 = p := ⟨vs.length - 2, by omega⟩
    have hq2 : vs.length - 1 = q := by omega
    have hp2 : vs.length - 2 = p := by omega
    rw [hq2] at hR
    rw [hp2] at hR2
    have hw1 : IntKind.i64.wrap ((vs.length : Int) - 1) = q := by rw [hq, IntKind.wrap_i64]; have := hok.1; omega
    have hw2 : IntKind.i64.wrap ((vs.length : Int) - 2) = p := by rw [hp, IntKind.wrap_i64]; have := hok.1; omega
    have hw3 : IntKind.i64.wrap (q : Int) = q := by rw [IntKind.wrap_i64]; have := hok.1; omega
    have hw4 : IntKind.i64.wrap (p : Int) = p := by rw [IntKind.wrap_i64]; have := hok.1; omega
    have hql : (q : Int) < vs.length := by omega
    have hql2 : q < vs.length := by omega
    have hpl2 : p < vs.length := by omega
    have hpl3 : (p : Int) < vs.length := by omega
    have hd : decide ((vs.length : Int) < 2) = false := decide_eq_false (by omega)
    have h5 := hok.1
    have hn2 : 2 ≤ vs.length := by omega
    have HH := hide h
    by_cases hk : kind (subtop vs) = 3
    · have hL : isL (subtop vs) = true := by rcases wf_cases hws with e | ⟨x, e, hn⟩ | ⟨s, e⟩ | ⟨l, r, e, _⟩ | ⟨l, r, e, _⟩ <;> rw [e] at hk ⊢ <;> first | rfl | cases hk
      have hci : canIter (subtop vs) = true := (canIter_kind hws).2 (.inl hk)
      obtain ⟨k2, css2, rfl, hrow2, hg2, hz2⟩ := hv2.ofKids hci
      obtain ⟨a2, c2, rfl, _⟩ := ownsRow_slice4 hrow2.row
      obtain ⟨n1, s1, a1, l1, p1, rfl⟩ := hv.cells
      have hsm := (partsLe hws hci).2
      have hpl30 : (parts (subtop vs)).length ≤ 30 := by omega
      rw [if_pos hk] at HC
      have hW2 : Below w.heap.size w ((w.alloc (.cells #[.int .i64 (kind (top vs)), .int .i64 n1, .string (str s1), .slice a1 l1 p1] 79)).alloc (.cells #[.int .i64 3, .int .i64 0, .string { data := #[] }, .slice (some ⟨w.heap.size, 0, none⟩) 1 1] 79)) := below_alloc (below_alloc (Below.refl _ _))
      have hrA : ((w.alloc (.cells #[.int .i64 (kind (top vs)), .int .i64 n1, .string (str s1), .slice a1 l1 p1] 79)).alloc (.cells #[.int .i64 3, .int .i64 0, .string { data := #[] }, .slice (some ⟨w.heap.size, 0, none⟩) 1 1] 79)).heap[w.heap.size]? = some (.cells #[.int .i64 (kind (top vs)), .int .i64 n1, .string (str s1), .slice a1 l1 p1] 79) := heap_alloc2_old w _ _
      have hrV : ((w.alloc (.cells #[.int .i64 (kind (top vs)), .int .i64 n1, .string (str s1), .slice a1 l1 p1] 79)).alloc (.cells #[.int .i64 3, .int .i64 0, .string { data := #[] }, .slice (some ⟨w.heap.size, 0, none⟩) 1 1] 79)).heap[w.heap.size + 1]? = some (.cells #[.int .i64 3, .int .i64 0, .string { data := #[] }, .slice (some ⟨w.heap.size, 0, none⟩) 1 1] 79) := heap_alloc2_new w _ _
      have hs2 : ((w.alloc (.cells #[.int .i64 (kind (top vs)), .int .i64 n1, .string (str s1), .slice a1 l1 p1] 79)).alloc (.cells #[.int .i64 3, .int .i64 0, .string { data := #[] }, .slice (some ⟨w.heap.size, 0, none⟩) 1 1] 79)).heap.size = w.heap.size + 1 + 1 := by simp
      have hmlt := h.lt.1
      have hglt := h.lt.2
      have hR2' := cells_of_range hR2
      have u0 := hR2'.1
      have hRt := hide hR
      have hqk : ((kind (subtop vs) : Int) != 3) = false := by simp [hk]
      have HW := hide (And.intro hwt hws)
      have HV := hide hv
      have HROW2 := hide hrow2
      have HG2 := hide hg2
      have HZ2 := hide hz2
      have HTX : Hid ((text (vcons (top vs) (subtop vs))).length ≤ 1000) := by
        show (text (vcons (top vs) (subtop vs))).length ≤ 1000
        rw [text_list _ rfl, inner_cons]
        have e1 : (sepInner (subtop vs)).length ≤ (text (subtop vs)).length := by
          rw [text_list _ hL]
          cases subtop vs with
          | nil => simp [sepInner]
          | node t o x l r => simp [sepInner]
        simp
        omega
      have HPE : Hid (parts (vcons (top vs) (subtop vs)) = [top vs] ++ parts (subtop vs)) := by
        show elems (vcons (top vs) (subtop vs)) = _
        unfold parts
        rw [if_neg (by rw [hk]; decide)]; rfl
      have HWC : Hid (Wf (vcons (top vs) (subtop vs))) := wf_cons hwt hws hL
      have HRR : Hid (consF vs = putF 2 (vcons (top vs) (subtop vs)) vs) := by
        show consF vs = _
        rw [HC.out, putF_big h5 (by omega) hn2]
      clear HC hL hci hws hwt hlt hls h0 hok hwf h hR hR2 hv hv2 hrow2 hg2 hz2 hgb hq2 hp2 hk
      generalize hkt : kind (top vs) = kt at *
      generalize kind (subtop vs) = ks at *
      unfold MWord
      go_enter Try.func51, Try.ntmps51
      go_upto_region 7 with (refine wpList_load_mid rfl 79 _ rfl b (q * 4) rfl [.int .i64 kt, .int .i64 n1, .string (str s1), .slice a1 l1 p1] _ hRt.out Try.underlying79 rfl (info79 _ rfl) ?_)
      generalize hWW : ((w.alloc (.cells #[.int .i64 kt, .int .i64 n1, .string (str s1), .slice a1 l1 p1] 79)).alloc (.cells #[.int .i64 3, .int .i64 0, .string { data := #[] }, .slice (some ⟨w.heap.size, 0, none⟩) 1 1] 79)) = W2 at *
      have x3 := (cells4 hrV).2.2.2.1
      have z3 := (cells4 hrV).2.2.2.2.1
      have m0 := (hW2.cell (p := ⟨m, 0, none⟩) hmlt).trans c0
      have y3 := (hW2.cell (p := ⟨b, p * 4 + 3, none⟩) hbl).trans hR2'.2.2.2
      have HOW : Hid (W2.drew.ownsRow w.heap.size 79 4 (.slice (some ⟨w.heap.size, 0, none⟩) 1 1) 1 [.int .i64 kt, .int .i64 n1, .string (str s1), .slice a1 l1 p1]) := ⟨rfl, .inr ⟨w.heap.size, 1, _, rfl, Nat.le_refl _, hrA, Nat.le_refl _, by unfold maxLen; omega, rfl, rfl⟩⟩
      have HR2D : Hid (MRow W2.drew (ex g) (.slice a2 (parts (subtop vs)).length c2) css2 (parts (subtop vs))) := (HROW2.out.below hW2).below (below_drew (Below.refl _ _))
      have hsd : w.heap.size ≤ W2.drew.heap.size := by show w.heap.size ≤ W2.heap.size; omega
      generalize hpp : (parts (subtop vs)).length = pl at *
      have HPP := hide hpp
      have SZ1 : Hid (w.heap.size + 1 < W2.drew.heap.size) := by show w.heap.size + 1 < W2.heap.size; omega
      have NE1 : Hid (some (w.heap.size + 1) ≠ (Value.slice (some ⟨w.heap.size, 0, none⟩) 1 1).ownBlock) := by show some (w.heap.size + 1) ≠ some w.heap.size; simp
      have HRV := hide hrV
      have HW2 := hide hW2
      have HFIN : Hid (∀ x1 y1 w5, w5.ownsRow w.heap.size 79 4 (.slice x1 (1 + (parts (subtop vs)).length) y1) (1 + (parts (subtop vs)).length) ([.int .i64 kt, .int .i64 n1, .string (str s1), .slice a1 l1 p1] ++ css2.flatten) → W2.drew.grownBy w5 (some w.heap.size) → ((Value.slice x1 (1 + (parts (subtop vs)).length) y1).ownBlock = some w.heap.size ∨ (Value.slice x1 (1 + (parts (subtop vs)).length) y1).ownBlock = some W2.drew.heap.size) →
          Below w.heap.size w (w5.setCell ⟨w.heap.size + 1, 3, none⟩ (.slice x1 (1 + (parts (subtop vs)).length) y1)) ∧ (w5.setCell ⟨w.heap.size + 1, 3, none⟩ (.slice x1 (1 + (parts (subtop vs)).length) y1)).heap[w.heap.size + 1]? = some (.cells #[.int .i64 3, .int .i64 0, .string { data := #[] }, .slice x1 (1 + (parts (subtop vs)).length) y1] 79) ∧ MV (w5.setCell ⟨w.heap.size + 1, 3, none⟩ (.slice x1 (1 + (parts (subtop vs)).length) y1)) (ex g) (vcons (top vs) (subtop vs)) (mC 3 0 [] (.slice x1 (1 + (parts (subtop vs)).length) y1))) := fun x1 y1 w5 ow5 gr5 at5 => by
        have hsW : W2.drew.heap.size = w.heap.size + 1 + 1 := hs2
        have hb5 : Below w.heap.size w w5 := below_grown (below_drew HW2.out) gr5 (fun k hk => by cases hk; exact Nat.le_refl _)
        have hb6 : Below w.heap.size w (w5.setCell ⟨w.heap.size + 1, 3, none⟩ (.slice x1 (1 + (parts (subtop vs)).length) y1)) := hb5.setCell (p := ⟨w.heap.size + 1, 3, none⟩) (by show w.heap.size ≤ w.heap.size + 1; omega) _
        have hr5 : w5.heap[w.heap.size + 1]? = some (.cells #[.int .i64 3, .int .i64 0, .string { data := #[] }, .slice (some ⟨w.heap.size, 0, none⟩) 1 1] 79) := (gr5.block (w.heap.size + 1) (by omega) (by simp)).trans HRV.out
        have hown : ∀ x, (Value.slice x1 (1 + (parts (subtop vs)).length) y1).ownBlock = some x → w.heap.size ≤ x ∧ x ≠ w.heap.size + 1 := fun x hx => by
          rcases at5 with e | e <;> (rw [hx] at e; cases e)
          · exact ⟨Nat.le_refl _, by omega⟩
          · exact ⟨by omega, by omega⟩
        have ho6 := ownsRow_setCell_ne ow5 (a := ⟨w.heap.size + 1, 3, none⟩) (fun x hx => (hown x hx).2) (.slice x1 (1 + (parts (subtop vs)).length) y1)
        refine ⟨hb6, (cells4 hr5).2.2.2.2.2 _, ?_⟩
        have hv6 := HV.out.carry hb6
        have hr6 := HROW2.out.below hb6
        refine MV.kids (vcons (top vs) (subtop vs)) _ ([[.int .i64 kt, .int .i64 n1, .string (str s1), .slice a1 l1 p1]] ++ css2) rfl ?_ (fun x hx e => ?_) ?_ ?_ (fun e => ?_) ?_
        · rw [HPE.out, List.length_append, List.flatten_append]
          have := ownsRow_zero ho6
          simpa using this
        · have h1 := hglt x e
          have h2 := (hown x hx).1
          omega
        · rw [HPE.out]; simp [hr6.len]
        · intro c hc
          rcases List.mem_append.1 hc with h | h
          · simp at h; subst h; rfl
          · exact hr6.four c h
        · rw [HPE.out] at e; cases e
        · intro i e c he hc
          rw [HPE.out] at he
          by_cases hi : i = 0
          · subst hi
            simp at he hc
            subst he hc
            exact hv6
          · rw [List.getElem?_append_right (by simp; omega)] at he hc
            simp at he hc
            exact hr6.rep _ e c he hc
      clear hWW hrA hrV hW2 hpp hR2' hRt u0 hqk hd hw1 hw3
      go_region_law ((refine step_append_kids (by rfl) _ _ (by rfl) w.heap.size (.slice (some ⟨w.heap.size, 0, none⟩) 1 1) 1 _ (by rfl) HOW.out hsd (.slice a2 pl c2) (by rfl) HR2D.out HZ2.out (by rw [HPP.out]; omega) ?_; intro x1 y1 w5 ow5 gr5 at5 nz5; have c5 : w5.cell? ⟨w.heap.size + 1, 3, none⟩ = some (.slice (some ⟨w.heap.size, 0, none⟩) 1 1) := (gr5.cell_far ⟨w.heap.size + 1, 3, none⟩ SZ1.out NE1.out).trans x3; have z5 : w5.frozen? ⟨w.heap.size + 1, 3, none⟩ = false := (gr5.frozen_far ⟨w.heap.size + 1, 3, none⟩ SZ1.out NE1.out).trans z3))
      all_goals
        obtain ⟨b6, r6, v6⟩ := HFIN.out x1 y1 w5 ow5 gr5 at5
        have hput := hide (put_calls (HH.out.below b6) h5 2 hn2 v6 HWC.out HTX.out)
        have HB6 := hide b6
        have HR6 := hide r6
        clear ow5 gr5 at5 nz5 b6 r6 v6 c5 z5 x3 z3 m0 y3
        generalize w5.setCell ⟨w.heap.size + 1, 3, none⟩ (.slice x1 (1 + (parts (subtop vs)).length) y1) = W6 at *
        generalize 1 + (parts (subtop vs)).length = ln at *
        go_wp2_with (first | (refine wpList_load_row rfl 79 _ rfl (w.heap.size + 1) rfl 79 _ (0, 0) _ HR6.out Try.underlying79 rfl info79a ?_) | (go_at_call 81; refine hput.out.mono ?_; rintro e w7 ⟨rfl, hm7⟩))
        go_ret
        rw [HRR.out]
        exact ⟨rfl, MMoved.after HB6.out hm7⟩
    · have hqk : ((kind (subtop vs) : Int) != 3) = true := by simp; omega
      obtain ⟨n2, s2, a2, l2, p2, rfl⟩ := hv2.cells
      have u0 := (cells_of_range hR2).1
      rw [if_neg hk] at HC
      clear h hok hwf h0 hR hR2 hv hv2 hwt hws hlt hls hq2 hp2 hk hgb
      generalize kind (subtop vs) = ks at *
      unfold MWord
      go_enter Try.func51, Try.ntmps51
      go_wp2
      go_ret
      rw [HC.out]
      exact ⟨rfl, MMoved.same HH.out⟩
end
end Go.Proofs.Qxb6500606a
