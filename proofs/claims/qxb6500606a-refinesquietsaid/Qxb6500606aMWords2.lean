/-
  The model valsm: Pair, Neg, Cons, Add. (Seat 606 alone.)
-/
import Derived.Test.Qxb6500606aMWords
import Derived.Deep.RegionHeld3
namespace Go.Proofs.Qxb6500606a
open Go.ChangeShapes Go.WideShapes Go.ChangeAt Go.RowKit
attribute [local go_sem] str_size str_app str_app1 str_1app str_toList str_get
set_option linter.unusedVariables false

/-- Two values laid down as a row. -/
theorem MV.two {w : World} {g : Nat → Prop} {x y : V} {cx cy : List Value} (hx : MV w g x cx) (hy : MV w g y cy) (hgl : ∀ b, g b → b < w.heap.size) (cs : Array Value) (hc : cs = (cx ++ cy).toArray) : MV (w.alloc (.cells cs 79)) g (vpair x y) (mC 4 0 [] (.slice (some ⟨w.heap.size, 0, none⟩) 2 2)) := by
  subst hc
  have hb : Below w.heap.size w (w.alloc (.cells (cx ++ cy).toArray 79)) := below_alloc (Below.refl _ _)
  refine .kids (vpair x y) _ [cx, cy] rfl ?_ (fun b hb' => ?_) rfl ?_ (fun e => by cases e) ?_
  · refine ⟨by simp [hx.len, hy.len, parts, kind], .inr ⟨w.heap.size, 2, _, rfl, Nat.zero_le _, heap_alloc_new _ _, Nat.le_refl _, by unfold maxLen; omega, by simp [hx.len, hy.len], ?_⟩⟩
    show ((cx ++ cy).toArray.toList).take (2 * 4) = [cx, cy].flatten
    rw [List.take_of_length_le (by simp [hx.len, hy.len])]; simp
  · cases hb'
    intro e
    have := hgl _ e
    simp at this
  · intro c hc
    simp at hc
    rcases hc with rfl | rfl
    · exact hx.len
    · exact hy.len
  · intro i e cs he hcs
    have he' : [x, y][i]? = some e := he
    rcases (show i = 0 ∨ i = 1 by have := (List.getElem?_eq_some_iff.1 he').1; simp at this; omega) with rfl | rfl
    · simp at he' hcs; subst he' hcs; exact hx.carry hb
    · simp at he' hcs; subst he' hcs; exact hy.carry hb
theorem wf_pair {x y : V} (hx : Wf x) (hy : Wf y) : Wf (vpair x y) := ⟨rfl, .inr (.inr (.inr ⟨rfl, rfl, hx, hy⟩))⟩
section
variable {w : World} {m : Nat} {g : Option Nat} {vs : St}
set_option maxRecDepth 100000 in
set_option maxHeartbeats 4000000 in
theorem mPair (h : MStk w m g vs) (hok : Okay vs) (hwf : ∀ v ∈ vs, Wf v) : MWord 52 w m g (pairF vs) := by
  by_cases h0 : vs.length < 2
  · exact mPair_under h h0
  · obtain ⟨b, cap, cs, cs2, c0, hR, hv, hR2, hv2, hbl, hgb⟩ := h.hasTwo (by omega)
    have hwt := hwf _ (List.mem_of_getElem? (top_at (by omega)))
    have hws := hwf _ (List.mem_of_getElem? (sub_at (by omega)))
    have hlt := hok.top (by omega)
    have hls := hok.subtop (by omega)
    obtain ⟨n1, s1, a1, l1, p1, rfl⟩ := hv.cells
    obtain ⟨n2, s2, a2, l2, p2, rfl⟩ := hv2.cells
    have hbW : ∀ o : Obj, Below w.heap.size w (w.alloc o).drew := fun o => below_drew (below_alloc (Below.refl _ _))
    have hput := hide (put_calls (h.below (hbW (.cells ((mC (kind (subtop vs)) n2 s2 (.slice a2 l2 p2)) ++ (mC (kind (top vs)) n1 s1 (.slice a1 l1 p1))).toArray 79))) hok.1 2 (by omega) ((hv2.two hv h.lt.2 _ rfl).carry (below_drew (Below.refl _ _))) (wf_pair hws hwt) (by rw [text_pair]; simp; omega))
    have HR : Hid (pairF vs = putF 2 (vpair (subtop vs) (top vs)) vs) := by
      show pairF vs = _
      rw [putF_big hok.1 (by omega) (by omega)]; unfold pairF; rw [if_neg h0]
    obtain ⟨t0, t1, t2, t3⟩ := cells_of_range hR
    obtain ⟨u0, u1, u2, u3⟩ := cells_of_range hR2
    obtain ⟨q, hq⟩ : ∃ q : Nat, (vs.length : Int) - 1 = q := ⟨vs.length - 1, by omega⟩
    obtain ⟨p, hp⟩ : ∃ p : Nat, (vs.length : Int) - 2 = p := ⟨vs.length - 2, by omega⟩
    have hq2 : vs.length - 1 = q := by omega
    have hp2 : vs.length - 2 = p := by omega
    rw [hq2] at t0 t1 t2 t3
    rw [hp2] at u0 u1 u2 u3
    have hw1 : IntKind.i64.wrap ((vs.length : Int) - 1) = q := by rw [hq, IntKind.wrap_i64]; have := hok.1; omega
    have hw2 : IntKind.i64.wrap ((vs.length : Int) - 2) = p := by rw [hp, IntKind.wrap_i64]; have := hok.1; omega
    have hw3 : IntKind.i64.wrap (q : Int) = q := by rw [IntKind.wrap_i64]; have := hok.1; omega
    have hw4 : IntKind.i64.wrap (p : Int) = p := by rw [IntKind.wrap_i64]; have := hok.1; omega
    have hql : (q : Int) < vs.length := by omega
    have hql2 : q < vs.length := by omega
    have hpl2 : p < vs.length := by omega
    have hpl : (p : Int) < vs.length := by omega
    have hd : decide ((vs.length : Int) < 2) = false := decide_eq_false (by omega)
    have HBW := hide hbW
    clear h hok hwf h0 hR hR2 hv hv2 hwt hws hlt hls hq2 hp2 hbW
    generalize kind (top vs) = kt at *
    generalize kind (subtop vs) = ks at *
    unfold MWord
    go_enter Try.func52, Try.ntmps52
    go_wp2_with fail
    go_region_with (go_at_call 81; refine hput.out.mono ?_; rintro e w1 ⟨rfl, hm1⟩)
    all_goals
      go_wp2_with fail
      go_ret
      rw [HR.out]
      exact ⟨rfl, MMoved.after (HBW.out _) hm1⟩
end
end Go.Proofs.Qxb6500606a
