import Derived.Test.Qxb6500606aAid
namespace Go.Proofs.Qxb6500606a
open Go.ChangeShapes Go.WideShapes Go.ChangeAt Go.RowKit Go.Shelf
attribute [local go_sem] Oper.semAt_some str_size str_app str_app1 str_1app str_toList
set_option linter.unusedVariables false
section
variable {w : World} {s : Nat} {g : Option Nat} {vs : List V}

set_option maxHeartbeats 400000 in
theorem find_calls (h : Stk w s g false vs) (hok : Okay vs) :
    Calls Try.prog 43 #[.pointer (some ⟨s, 0, none⟩)] w fun e w' => e = .returned (.int .i64 (findF vs).1) ∧ Moved w s g false (findF vs).2 w' := by
  have hS := h
  obtain ⟨a, cap, xs, h⟩ := h
  have hn5 := hok.1
  by_cases h0 : vs.length < 2
  · have H : Hid (findF vs = (4, vs)) := by unfold findF; rw [if_pos h0]; exact rfl
    have hpk := hide (peek1_out h hn5 h0)
    have hlk := lack2 h hn5
    rw [if_pos h0] at hlk
    have hlk := hide hlk
    have hta := as_iter_nil
    clear h
    go_enter Try.func43, Try.ntmps43
    go_wp2_with (first | (go_at_call 73; refine hpk.out.mono ?_; rintro e w' ⟨rfl, rfl⟩) | (go_at_call 75; refine hlk.out.mono ?_; rintro e w' ⟨rfl, rfl⟩))
    go_ret
    exact ⟨by rw [H.out]; rfl, by rw [H.out]; exact Moved.same hS⟩
  · obtain ⟨x, hx, hr⟩ := h.hasTop (by omega)
    obtain ⟨y, hy, hry⟩ := h.hasUnder (by omega)
    have hpk := hide (peek1 h hn5 y (by omega) hy)
    have hta := as_iter hry
    by_cases hc : canIter (subtop vs) = true
    · rw [hc] at hta
      simp only [if_true] at hta
      have hpk0 := hide (peek0 h hn5 x (by omega) hx)
      obtain ⟨fs, argss, hinvs, hcs⟩ := shows hr (by have := hok.top (by omega); omega)
      have hcs := hide hcs
      have HY := hide hry
      clear h hr hx hy hry
      refine (callsIn_wide (n := 5)).1 (callsIn_of_wp_marks Try.func43 rfl trivial ?_ rfl)
      simp only [Try.ntmps43, List.size_toArray, List.length_cons, List.length_nil, Nat.reduceAdd, Nat.reduceSub, Array.replicate_succ, Array.replicate_zero, List.push_toArray, List.append_toArray, List.nil_append, List.cons_append]
      have HA : Hid (∀ W, Below w.heap.size w W → AllsAt 4 W y (subtop vs)) := fun W hW => alls (HY.out.below hW) hc
      gi_wp2_with fail
      refine ⟨trivial, (callsIn_wide.2 hpk.out).mono ?_⟩
      rintro e w' ⟨rfl, hw⟩
      subst w'
      gi_wp2_with fail
      refine ⟨trivial, (callsIn_wide.2 hpk0.out).mono ?_⟩
      rintro e w' ⟨rfl, hw⟩
      subst w'
      gi_wp2_with (first | (refine wpListIn_invoke wideFn rfl rfl _ "Show" _ rfl x rfl _ _ hinvs _ (callsIn_wide.2 hcs.out) ?_; rintro e w1 ⟨rfl, hb1⟩; refine ⟨_, rfl, ?_⟩) | (refine wpListIn_all HA.out ?_ ?_ ?_; exact below_alloc (below_alloc (below_alloc hb1)); exact rfl; intro gf ob ys hcf hrep hwalk))
      simp only [Act.put, List.setIfInBounds_toArray, List.set_cons_succ, List.set_cons_zero, World.size_alloc] at hwalk ⊢
      have hB0 : Below w.heap.size w ((((w1.alloc (.cells #[.string (str (text (top vs)))] 9)).alloc (.cells #[.int .i64 (-1)] 3)).alloc (.cells #[.int .i64 0] 3)).alloc ob) := below_alloc (below_alloc (below_alloc (below_alloc hb1)))
      have hkv : KeepsV _ ((((w1.alloc (.cells #[.string (str (text (top vs)))] 9)).alloc (.cells #[.int .i64 (-1)] 3)).alloc (.cells #[.int .i64 0] 3)).alloc ob) := .of_below ((Below.refl _ _).alloc (Nat.le_refl _) ob)
      have HREP := hide (hrep.keep hkv)
      have hsz := hb1.size
      have HTX : Hid (∀ u ∈ parts (subtop vs), (text u).length ≤ 30) := fun u hu => Nat.le_trans (parts_text HY.out u hu) (hok.subtop (by omega))
      have hlen := hide hrep.length
      have HSW : Hid (∀ W k, Below w.heap.size w W → I64 k → Calls Try.prog 72 #[.pointer (some ⟨s, 0, none⟩), .int .i64 2, .iface 82 (.int .i64 k)] W fun e w' => e = .returned (.tuple #[]) ∧ Moved W s g false (lay 2 (vint k) vs).2 w') := fun W k hW hk => by
        obtain ⟨a', cap', xs', h'⟩ := hS.below hW
        exact swap2 h' hn5 (by omega) (rep_int hk)
      have HF : Hid (findF vs = lay 2 (vint (findIn (text (top vs)) (parts (subtop vs)) 0)) vs) := by unfold findF; rw [if_neg h0, if_pos hc]; exact rfl
      have hpl : Hid ((parts (subtop vs)).length ≤ 1000) := by
        unfold parts; split
        · show [left (subtop vs), right (subtop vs)].length ≤ 1000; simp
        · exact elems_le HY.out (by have := hok.subtop (by omega); omega)
      clear hrep hkv hpk hpk0 hcs hinvs
      generalize htt : text (top vs) = tt at *
      have hE0 : ((((w1.alloc (.cells #[.string (str tt)] 9)).alloc (.cells #[.int .i64 (-1)] 3)).alloc (.cells #[.int .i64 0] 3)).alloc ob).heap[w1.heap.size]? = some (.cells #[.string (str tt)] 9) := by
        rw [heap_alloc_old _ _ (by simp only [World.size_alloc]; omega), heap_alloc_old _ _ (by simp only [World.size_alloc]; omega), heap_alloc_old _ _ (by simp only [World.size_alloc]; omega)]; exact heap_alloc_new _ _
      have hE1 : ((((w1.alloc (.cells #[.string (str tt)] 9)).alloc (.cells #[.int .i64 (-1)] 3)).alloc (.cells #[.int .i64 0] 3)).alloc ob).heap[w1.heap.size + 1]? = some (.cells #[.int .i64 (-1)] 3) := by
        rw [heap_alloc_old _ _ (by simp only [World.size_alloc]; omega), heap_alloc_old _ _ (by simp only [World.size_alloc]; omega)]; have := heap_alloc_new (w1.alloc (.cells #[.string (str tt)] 9)) (.cells #[.int .i64 (-1)] 3); simpa using this
      have hE2 : ((((w1.alloc (.cells #[.string (str tt)] 9)).alloc (.cells #[.int .i64 (-1)] 3)).alloc (.cells #[.int .i64 0] 3)).alloc ob).heap[w1.heap.size + 1 + 1]? = some (.cells #[.int .i64 0] 3) := by
        rw [heap_alloc_old _ _ (by simp only [World.size_alloc]; omega)]; have := heap_alloc_new ((w1.alloc (.cells #[.string (str tt)] 9)).alloc (.cells #[.int .i64 (-1)] 3)) (.cells #[.int .i64 0] 3); simpa using this
      have hsz0 : ((((w1.alloc (.cells #[.string (str tt)] 9)).alloc (.cells #[.int .i64 (-1)] 3)).alloc (.cells #[.int .i64 0] 3)).alloc ob).heap.size = w1.heap.size + 1 + 1 + 1 + 1 := by simp
      generalize hW0 : ((((w1.alloc (.cells #[.string (str tt)] 9)).alloc (.cells #[.int .i64 (-1)] 3)).alloc (.cells #[.int .i64 0] 3)).alloc ob) = W0 at *
      clear hW0
      refine range_law rfl hcf hwalk
        (fun i W => (W.heap[w1.heap.size]? = some (.cells #[.string (str tt)] 9) ∧ W.heap[w1.heap.size + 1]? = some (.cells #[.int .i64 (-1)] 3) ∧ W.heap[w1.heap.size + 1 + 1]? = some (.cells #[.int .i64 i] 3)) ∧ RepAll W (parts (subtop vs)) ys ∧ (∀ j, j < i → ∀ u, (parts (subtop vs))[j]? = some u → text u ≠ tt) ∧ Below w.heap.size w W)
        (fun c W => c = .exit 0 ∧ W.heap[w1.heap.size + 1]? = some (.cells #[.int .i64 (findIn tt (parts (subtop vs)) 0)] 3) ∧ Below w.heap.size w W) (fun _ _ => False)
        ?own ?ownx ownFrom_false ?start ?round ?done ?stop ?pan
      case own =>
        intro i W W' row hs hg hr
        have hkv : KeepsV W W' := by
          intro b c t _ e
          refine (hg.block b (lt_of_heap e) fun e' => ?_).trans e
          obtain ⟨_, o, ho, hc'⟩ := hr b e'.symm
          rw [e] at ho; cases ho; cases hc'
        exact ⟨⟨ownFrom_block () W W' row hs.1.1 hg hr, ownFrom_block () W W' row hs.1.2.1 hg hr, ownFrom_block () W W' row hs.1.2.2 hg hr⟩, hs.2.1.keep hkv, hs.2.2.1, ownFrom_below (Nat.le_refl _) (by omega) () W W' row hs.2.2.2 hg hr⟩
      case ownx =>
        intro c W W' row hs hg hr
        exact ⟨hs.1, ownFrom_block () W W' row hs.2.1 hg hr, ownFrom_below (Nat.le_refl _) (by omega) () W W' row hs.2.2 hg hr⟩
      case start => exact ⟨⟨hE0, hE1, hE2⟩, HREP.out, fun j hj => by omega, hB0⟩
      case round =>
        rintro l i z W W2 hz ⟨⟨e0, e1, e2⟩, hra, hno, hb⟩
        obtain ⟨u, hu, hru⟩ := hra.val hz
        have hul := HTX.out u (List.mem_of_getElem? hu)
        obtain ⟨fz, argz, hinvz, hcz⟩ := shows hru (by omega)
        apply Exists.intro
        refine ⟨?_, .inl ?_⟩
        · intro K hK
          simp only [List.setIfInBounds_toArray, List.set_cons_succ, List.set_cons_zero]
          gi_wp2
          exact hK
        · have HK : Hid (∀ W3, Below W2.heap.size W2 W3 → (W3.cell? ⟨w1.heap.size, 0, none⟩ = some (.string (str tt)) ∧ W3.heap[w1.heap.size + 1]? = some (.cells #[.int .i64 (-1)] 3) ∧ W3.heap[w1.heap.size + 1 + 1]? = some (.cells #[.int .i64 i] 3))) := fun W3 h3 =>
            ⟨(cell_of_heap ((h3.block _ (lt_of_heap e0)).trans e0)).1, (h3.block _ (lt_of_heap e1)).trans e1, (h3.block _ (lt_of_heap e2)).trans e2⟩
          have HW := hide (And.intro e0 e1)
          have hcz := hide hcz
          have HNO := hide hno
          have HRA := hide hra
          have HU := hide hu
          have HZ := hide hz
          have hib : i < 1000 := by have := (List.getElem?_eq_some_iff.1 hu).1; have := hpl.out; omega
          clear hno hra hu hz e0 e1 e2 hE0 hE1 hE2
          by_cases heq : text u = tt
          · have hcmp : (text u == tt) = true := by simpa using heq
            have HEQ := hide heq
            clear heq
            gi_wp2_with (refine wpListIn_invoke (F := Fence.wide.inRound l) (fun _ => trivial) rfl rfl _ "Show" _ rfl z rfl _ _ hinvz _ (CallsIn.inRound l (callsIn_wide.2 hcz.out)) ?_; rintro e W3 ⟨rfl, hb3⟩; obtain ⟨d0, d1, d2⟩ := HK.out W3 hb3; obtain ⟨d1c, d1f⟩ := cell_of_heap d1; obtain ⟨d2c, d2f⟩ := cell_of_heap d2; refine ⟨_, rfl, ?_⟩)
            refine ⟨(keepsOthers_below hb3).trans (KeepsOthers.setCell _ _ _), rfl, ?_, ?_⟩
            · rw [findIn_at _ 0 i u HU.out HEQ.out HNO.out]
              have := heap_set d1 (.int .i64 i)
              simpa using this
            · exact below_set (hb.trans (hb3.mono hb.size)) (by omega)
          · have hcmp : (text u == tt) = false := by simpa using heq
            have HEQ := hide heq
            clear heq
            gi_wp2_with (refine wpListIn_invoke (F := Fence.wide.inRound l) (fun _ => trivial) rfl rfl _ "Show" _ rfl z rfl _ _ hinvz _ (CallsIn.inRound l (callsIn_wide.2 hcz.out)) ?_; rintro e W3 ⟨rfl, hb3⟩; obtain ⟨d0, d1, d2⟩ := HK.out W3 hb3; obtain ⟨d1c, d1f⟩ := cell_of_heap d1; obtain ⟨d2c, d2f⟩ := cell_of_heap d2; refine ⟨_, rfl, ?_⟩)
            have hkv3 : KeepsV W2 (W3.setCell ⟨w1.heap.size + 1 + 1, 0, none⟩ (.int .i64 (i + 1))) := (KeepsV.of_below hb3).trans (keepsV_set d2 nStill3)
            refine ⟨(keepsOthers_below hb3).trans (KeepsOthers.setCell _ _ _), hkv3, ⟨?_, ?_, ?_⟩, HRA.out.keep hkv3, ?_, ?_⟩
            · exact (heap_set_other _ (by omega)).trans ((hb3.block _ (lt_of_heap (HW.out.1))).trans HW.out.1)
            · exact (heap_set_other _ (by omega)).trans d1
            · exact heap_set d2 _
            · intro j hj u' hu'
              rcases Nat.lt_or_ge j i with h | h
              · exact HNO.out j h u' hu'
              · have : j = i := by omega
                subst this
                rw [HU.out] at hu'
                cases hu'
                exact HEQ.out
            · exact below_set (hb.trans (hb3.mono hb.size)) (by omega)
      case done =>
        rintro D W hD ⟨⟨e0, e1, e2⟩, hra, hno, hb⟩ hK
        have HR : Hid (findIn tt (parts (subtop vs)) 0 = -1) := hide (findIn_none _ 0 (by rw [← hlen.out]; exact hno))
        obtain ⟨c1, f1⟩ := cell_of_heap e1
        have hsw := hide (HSW.out W (-1) hb (by constructor <;> omega))
        have HH := hide (hS.below hb)
        clear hno e0 e1 e2 hE0 hE1 hE2 hra
        gi_wp2_with (refine ⟨trivial, ?_⟩; gi_at_call 72; refine (callsIn_wide.2 hsw.out).mono ?_; rintro e W3 ⟨rfl, hm⟩)
        have hK3 := (Moved.keepsOthers HH.out hm).same D _ hK rfl
        refine ⟨by simp, .inl ⟨_, _, rfl, run_takeDeferred hK3, ?_⟩⟩
        refine ⟨_, results_tmp rfl _ _ _, ?_, ?_⟩
        · rw [HF.out]; rfl
        · rw [HF.out, HR.out]
          exact (Moved.after hb hm).shut (by omega) hK3 rfl _
      case stop =>
        rintro D c W hD ⟨rfl, e1, hb⟩ hK
        obtain ⟨c1, f1⟩ := cell_of_heap e1
        have hsw := hide (HSW.out W _ hb (findIn_i64 tt (parts (subtop vs)) 0 (by omega) (by have := hpl.out; omega)))
        have HH := hide (hS.below hb)
        clear e1 hE0 hE1 hE2
        gi_wp2_with (refine ⟨trivial, ?_⟩; gi_at_call 72; refine (callsIn_wide.2 hsw.out).mono ?_; rintro e W3 ⟨rfl, hm⟩)
        have hK3 := (Moved.keepsOthers HH.out hm).same D _ hK rfl
        refine ⟨by simp, .inl ⟨_, _, rfl, run_takeDeferred hK3, ?_⟩⟩
        refine ⟨_, results_tmp rfl _ _ _, ?_, ?_⟩
        · rw [HF.out]; rfl
        · rw [HF.out]
          exact (Moved.after hb hm).shut (by omega) hK3 rfl _
      case pan => intro D ch W _ h _; exact h.elim
    · have hcf : canIter (subtop vs) = false := by simpa using hc
      have H : Hid (findF vs = (5, vs)) := by unfold findF; rw [if_neg h0, if_neg hc]; exact rfl
      rw [hcf] at hta
      simp only [Bool.false_eq_true, if_false] at hta
      have hlk := lack2 h hn5
      rw [if_neg h0] at hlk
      have hlk := hide hlk
      clear h hr hx hc hcf hy hry
      go_enter Try.func43, Try.ntmps43
      go_wp2_with (first | (go_at_call 73; refine hpk.out.mono ?_; rintro e w' ⟨rfl, rfl⟩) | (go_at_call 75; refine hlk.out.mono ?_; rintro e w' ⟨rfl, rfl⟩))
      go_ret
      exact ⟨by rw [H.out]; rfl, by rw [H.out]; exact Moved.same hS⟩
end
end Go.Proofs.Qxb6500606a
