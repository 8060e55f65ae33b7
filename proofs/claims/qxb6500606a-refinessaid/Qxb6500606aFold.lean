/-
  The word Fold.
-/
import Derived.Test.Qxb6500606aPlus
namespace Go.Proofs.Qxb6500606a
open Go.ChangeShapes Go.WideShapes Go.ChangeAt Go.RowKit Go.Shelf
attribute [local go_sem] Oper.semAt_some
set_option linter.unusedVariables false

def foldAll : List V → Int × V
  | [] => (8, .nil)
  | v :: r => foldIn v r
theorem foldF_eq {vs : St} (h0 : vs.length ≠ 0) (hc : canIter (top vs) = true) :
    foldF vs = if (foldAll (parts (top vs))).1 ≠ 0 then ((foldAll (parts (top vs))).1, vs) else lay 1 (foldAll (parts (top vs))).2 vs := by
  unfold foldF
  rw [if_neg h0, if_pos hc]
  cases parts (top vs) with
  | nil => rfl
  | cons v r => rfl
theorem foldAll_step {P : List V} {acc u : V} {i : Nat} (h : foldAll P = foldIn acc (P.drop i)) (hu : P[i]? = some u) (he : (plusF acc u).1 = 0) : foldAll P = foldIn (plusF acc u).2 (P.drop (i + 1)) := by
  obtain ⟨hi, rfl⟩ := List.getElem?_eq_some_iff.1 hu
  rw [h, List.drop_eq_getElem_cons hi, foldIn, if_neg (fun h => h he)]
theorem foldAll_stop {P : List V} {acc u : V} {i : Nat} (h : foldAll P = foldIn acc (P.drop i)) (hu : P[i]? = some u) (he : (plusF acc u).1 ≠ 0) : foldAll P = ((plusF acc u).1, .nil) := by
  obtain ⟨hi, rfl⟩ := List.getElem?_eq_some_iff.1 hu
  rw [h, List.drop_eq_getElem_cons hi, foldIn, if_pos he]
theorem foldAll_first {P : List V} {u : V} (hu : P[0]? = some u) : foldAll P = foldIn u (P.drop 1) := by
  cases P with
  | nil => simp at hu
  | cons v r => simp at hu; subst hu; rfl
theorem foldAll_end {P : List V} {acc : V} (h : foldAll P = foldIn acc (P.drop P.length)) : foldAll P = (0, acc) := by
  rw [h, List.drop_length]; rfl
theorem results_cell1 {fn : Func} {p : Tmp} (h : fn.results = #[.cell p 25]) (tmps : Array Value) (w : World) (a : Addr) (v : Value) (hp : tmps.getD p undef = .pointer (some a)) (hc : w.cell? a = some v) : (results fn tmps).run Try.prog w = .ok v w := by
  have hp' : tmps[p]?.getD undef = .pointer (some a) := by simpa using hp
  have hl : (loadVar 25 a).run Try.prog w = .ok v w := by simp [go_sem, hc]
  simp [results, h, hp', asAddr, hl]
theorem run_bare_hasB {asserted t : TypeId} {want : Array (String × TypeId)} (hu : Try.prog.underlying asserted = some (.interface want)) (h : (Try.prog.info? t).map (fun i => (lacking want i.methods).isEmpty) = some true)
    (v : Value) (xT : TypeId) (w : World) : (Instr.typeAssert (.iface t v) xT asserted false).run Try.prog w = .ok (.iface t v) w := by
  obtain ⟨i, hi, hl⟩ := Option.map_eq_some_iff.1 h
  simp [Instr.typeAssert, run_underlying hu, typeInfo, hi, missingMethod_none (List.isEmpty_iff.1 hl)]
theorem cell_new (w : World) (x : Value) (t : TypeId) : (w.alloc (.cells #[x] t)).cell? ⟨w.heap.size, 0, none⟩ = some x := (cell_of_heap (heap_alloc_new w _)).1
theorem as_len_bare {w : World} {v : V} {x : Value} (h : Rep w v x) (hc : canLen v = true) (W : World) : (Instr.typeAssert x 60 100 false).run Try.prog W = .ok x W := by
  rcases rep_cases h with ⟨rfl, rfl⟩ | ⟨n, rfl, _, rfl⟩ | ⟨s, rfl, rfl⟩ | ⟨l, r, b, y, q, rfl, _, rfl, _⟩ | ⟨l, r, b, y, q, rfl, rfl, _⟩
  · exact run_bare_hasB Try.underlying100 (by kernel_rfl) _ _ W
  · cases hc
  · exact run_bare_hasB Try.underlying100 (by kernel_rfl) _ _ W
  · exact run_bare_hasB Try.underlying100 (by kernel_rfl) _ _ W
  · exact run_bare_hasB Try.underlying100 (by kernel_rfl) _ _ W
theorem parts_len {w : World} {v : V} {x : Value} (h : Rep w v x) (hc : canIter v = true) : lenV v = (parts v).length := by
  rcases rep_cases h with ⟨rfl, rfl⟩ | ⟨n, rfl, _, rfl⟩ | ⟨s, rfl, rfl⟩ | ⟨l, r, b, y, q, rfl, _, rfl, _⟩ | ⟨l, r, b, y, q, rfl, rfl, _⟩
  · rfl
  · cases hc
  · cases hc
  · rfl
  · rfl
/-- A word on a stack keeps a plain variable. -/
theorem Moved.keepsBlock {W W' : World} {s b : Nat} {g : Option Nat} {busy busy' : Bool} {vs vs' : St} {c : Array Value} {t : TypeId} (h : Stk W s g busy vs) (hm : Moved W s g busy' vs' W') (hb : W.heap[b]? = some (.cells c t)) (h1 : t ≠ 46) (h2 : t ≠ 60) : W'.heap[b]? = some (.cells c t) := by
  obtain ⟨g', _, _, h3⟩ := hm
  obtain ⟨a, cap, xs, h⟩ := h
  refine (h3.block b (lt_of_heap hb) fun ho => ?_).trans hb
  obtain ⟨c', t', h4, h5⟩ := own_tag h ho
  rw [hb] at h4
  simp at h4
  obtain ⟨rfl, rfl⟩ := h4
  exact h5.elim h1 h2
theorem Moved.set {w W : World} {s : Nat} {g : Option Nat} {busy : Bool} {vs : St} {b : Nat} {x v : Value} {t : TypeId} (hm : Moved w s g busy vs W) (hb : w.heap.size ≤ b) (hc : W.heap[b]? = some (.cells #[x] t)) (h1 : t ≠ 46) (h2 : t ≠ 60) (h3 : ¬ still t) : Moved w s g busy vs (W.setCell ⟨b, 0, none⟩ v) := by
  obtain ⟨g', ⟨a, cap, xs, h⟩, hg, ho⟩ := hm
  refine ⟨g', ⟨a, cap, xs, h.only (fun b' hb' => heap_set_other v fun e => ?_) (keepsV_set hc h3)⟩, hg, ho.setCell (.inr hb) v⟩
  subst e
  obtain ⟨c', t', h4, h5⟩ := own_tag h hb'
  rw [hc] at h4
  simp at h4
  obtain ⟨rfl, rfl⟩ := h4
  exact h5.elim h1 h2
theorem canLen_of_iter {v : V} (h : canIter v = true) : canLen v = true := by
  simp [canIter] at h
  rcases h with h | h <;> simp [canLen, h]
section
variable {w : World} {s : Nat} {g : Option Nat} {vs : List V}

set_option maxHeartbeats 1000000 in
theorem fold_calls (h : Stk w s g false vs) (hok : Okay vs) :
    Calls Try.prog 44 #[.pointer (some ⟨s, 0, none⟩)] w fun e w' => e = .returned (.int .i64 (foldF vs).1) ∧ Moved w s g false (foldF vs).2 w' := by
  have hS := h
  obtain ⟨a, cap, xs, h⟩ := h
  have hn5 := hok.1
  have hA : Below w.heap.size w (w.alloc (.cells #[.int .i64 0] 25)) := below_alloc (Below.refl _ _)
  by_cases h0 : vs.length = 0
  · have H : Hid (foldF vs = (4, vs)) := by unfold foldF; rw [if_pos h0]; exact rfl
    have hpk := hide (peek0_out (h.below hA) hn5 h0)
    have hlk := lack1 (h.below hA) hn5
    rw [if_pos h0] at hlk
    have hlk := hide hlk
    have hta := as_iter_nil
    clear h
    go_enter Try.func44, Try.ntmps44
    go_wp2_with (first | (go_at_call 73; refine hpk.out.mono ?_; rintro e w' ⟨rfl, rfl⟩) | (go_at_call 75; refine hlk.out.mono ?_; rintro e w' ⟨rfl, rfl⟩))
    refine bodyPost_ret (results_cell1 rfl _ _ _ _ rfl (cell_new _ _ _)) rfl ?_
    exact ⟨by rw [H.out], by rw [H.out]; exact Moved.below hS (below_alloc (Below.refl _ _))⟩
  · obtain ⟨x, hx, hr⟩ := h.hasTop (by omega)
    have hpk := hide (peek0 (h.below hA) hn5 x (by omega) hx)
    have hta := as_iter hr
    by_cases hc : canIter (top vs) = true
    · rw [hc] at hta
      simp only [if_true] at hta
      have HF := hide (foldF_eq h0 hc)
      have htl := as_len_bare hr (canLen_of_iter hc)
      have hpl : (parts (top vs)).length ≤ 1000 := by
        unfold parts; split
        · show [left (top vs), right (top vs)].length ≤ 1000; simp
        · exact elems_le hr (by have := hok.top (by omega); omega)
      obtain ⟨fl, argl, hinvl, hcl⟩ := lens (hr.below hA) (canLen_of_iter hc) (elems_le hr (by have := hok.top (by omega); omega))
      rw [parts_len hr hc] at hcl
      have hcl := hide hcl
      by_cases hp0 : (parts (top vs)).length = 0
      · have HP : Hid (foldAll (parts (top vs)) = (8, .nil)) := by rw [List.length_eq_zero_iff.1 hp0]; exact rfl
        have hz : (((parts (top vs)).length : Int) == 0) = true := by simp [hp0]
        clear h hr hx
        generalize (parts (top vs)).length = np at *
        go_enter Try.func44, Try.ntmps44
        go_wp2_with (first | (go_at_call 73; refine hpk.out.mono ?_; rintro e w' ⟨rfl, hw⟩; subst w') | (refine wpList_invoke rfl _ "Len" _ rfl x rfl _ _ hinvl _ hcl.out ?_; rintro e w' ⟨rfl, hw⟩; subst w'; refine ⟨_, rfl, ?_⟩))
        refine bodyPost_ret (results_cell1 rfl _ _ _ _ rfl (cell_new _ _ _)) rfl ?_
        exact ⟨by rw [HF.out, HP.out]; rfl, by rw [HF.out, HP.out]; exact Moved.below hS (below_alloc (Below.refl _ _))⟩
      · have hz : (((parts (top vs)).length : Int) == 0) = false := by simpa using hp0
        have HY := hide hr
        have hHS : (w.alloc (.cells #[.int .i64 0] 25)).heap[w.heap.size]? = some (.cells #[.int .i64 0] 25) := heap_alloc_new _ _
        clear h hr hx
        have HA : Hid (∀ W, Below w.heap.size w W → AllsAt 4 W x (top vs)) := fun W hW => alls (HY.out.below hW) hc
        refine (callsIn_wide (n := 5)).1 (callsIn_of_wp_marks Try.func44 rfl trivial ?_ rfl)
        simp only [Try.ntmps44, List.size_toArray, List.length_cons, List.length_nil, Nat.reduceAdd, Nat.reduceSub, Array.replicate_succ, Array.replicate_zero, List.push_toArray, List.append_toArray, List.nil_append, List.cons_append]
        gi_wp2_with fail
        refine ⟨trivial, (callsIn_wide.2 hpk.out).mono ?_⟩
        rintro e w' ⟨rfl, hw⟩
        subst w'
        gi_wp2_with (first | (refine wpListIn_invoke wideFn rfl rfl _ "Len" _ rfl x rfl _ _ hinvl _ (callsIn_wide.2 hcl.out) ?_; rintro e w1 ⟨rfl, hw⟩; subst w1; refine ⟨_, rfl, ?_⟩) | (refine wpListIn_all HA.out ?_ ?_ ?_; exact below_alloc hA; exact rfl; intro gf ob ys hcf hrep hwalk))
        simp only [Act.put, List.setIfInBounds_toArray, List.set_cons_succ, List.set_cons_zero, World.size_alloc] at hwalk ⊢
        have hB0 : Below w.heap.size w (((w.alloc (.cells #[.int .i64 0] 25)).alloc (.cells #[.nilIface] 60)).alloc ob) := below_alloc (below_alloc (below_alloc (Below.refl _ _)))
        have hkv : KeepsV _ (((w.alloc (.cells #[.int .i64 0] 25)).alloc (.cells #[.nilIface] 60)).alloc ob) := .of_below ((Below.refl _ _).alloc (Nat.le_refl _) ob)
        have HREP := hide (hrep.keep hkv)
        have HTX : Hid (∀ u ∈ parts (top vs), (text u).length ≤ 30) := fun u hu => Nat.le_trans (parts_text HY.out u hu) (hok.top (by omega))
        have hlen := hide hrep.length
        have HSW : Hid (∀ W v' x', Below w.heap.size w W → Rep W v' x' → Calls Try.prog 72 #[.pointer (some ⟨s, 0, none⟩), .int .i64 1, x'] W fun e w' => e = .returned (.tuple #[]) ∧ Moved W s g false (lay 1 v' vs).2 w') := fun W v' x' hW hr => by
          obtain ⟨a', cap', xs', h'⟩ := hS.below hW
          exact swap1 h' hn5 (by omega) hr
        have hE0 : (((w.alloc (.cells #[.int .i64 0] 25)).alloc (.cells #[.nilIface] 60)).alloc ob).heap[w.heap.size]? = some (.cells #[.int .i64 0] 25) := by
          rw [heap_alloc_old _ _ (by simp only [World.size_alloc]; omega), heap_alloc_old _ _ (by simp only [World.size_alloc]; omega)]; exact heap_alloc_new _ _
        have hE1 : (((w.alloc (.cells #[.int .i64 0] 25)).alloc (.cells #[.nilIface] 60)).alloc ob).heap[w.heap.size + 1]? = some (.cells #[.nilIface] 60) := by
          rw [heap_alloc_old _ _ (by simp only [World.size_alloc]; omega)]; have := heap_alloc_new (w.alloc (.cells #[.int .i64 0] 25)) (.cells #[.nilIface] 60); simpa using this
        have hsz0 : (((w.alloc (.cells #[.int .i64 0] 25)).alloc (.cells #[.nilIface] 60)).alloc ob).heap.size = w.heap.size + 1 + 1 + 1 := by simp
        clear hrep hkv hpk hcl hinvl hHS hz
        have hp0 := hide hp0
        have hpl := hide hpl
        generalize hW0 : (((w.alloc (.cells #[.int .i64 0] 25)).alloc (.cells #[.nilIface] 60)).alloc ob) = W0 at *
        clear hW0
        generalize hP : parts (top vs) = P at *
        refine range_law rfl hcf hwalk
          (fun i W => W.heap[w.heap.size]? = some (.cells #[.int .i64 0] 25) ∧ RepAll W P ys ∧ Below w.heap.size w W ∧
            ((i = 0 ∧ W.heap[w.heap.size + 1]? = some (.cells #[.nilIface] 60)) ∨ (i ≠ 0 ∧ ∃ acc x', W.heap[w.heap.size + 1]? = some (.cells #[x'] 60) ∧ Rep W acc x' ∧ (text acc).length ≤ 30 ∧ foldAll P = foldIn acc (P.drop i))))
          (fun c W => c = .ret ∧ (foldAll P).1 ≠ 0 ∧ W.heap[w.heap.size]? = some (.cells #[.int .i64 (foldAll P).1] 25) ∧ Below w.heap.size w W) (fun _ _ => False)
          ?own ?ownx ownFrom_false ?start ?round ?done ?stop ?pan
        case own =>
          rintro i W W' row ⟨h1, h2, h3, h4⟩ hg hr
          have hkv : KeepsV W W' := by
            intro b c t _ e
            refine (hg.block b (lt_of_heap e) fun e' => ?_).trans e
            obtain ⟨_, o, ho, hc'⟩ := hr b e'.symm
            rw [e] at ho; cases ho; cases hc'
          refine ⟨ownFrom_block () W W' row h1 hg hr, h2.keep hkv, ownFrom_below (Nat.le_refl _) (by omega) () W W' row h3 hg hr, ?_⟩
          rcases h4 with ⟨h4, h5⟩ | ⟨h4, acc, x', h5, h6, h7, h8⟩
          · exact .inl ⟨h4, ownFrom_block () W W' row h5 hg hr⟩
          · exact .inr ⟨h4, acc, x', ownFrom_block () W W' row h5 hg hr, h6.keep hkv, h7, h8⟩
        case ownx =>
          rintro c W W' row ⟨h1, h2, h3, h4⟩ hg hr
          exact ⟨h1, h2, ownFrom_block () W W' row h3 hg hr, ownFrom_below (Nat.le_refl _) (by omega) () W W' row h4 hg hr⟩
        case start => exact ⟨hE0, HREP.out, hB0, .inl ⟨rfl, hE1⟩⟩
        case round =>
          rintro l i z W W2 hz ⟨e0, hra, hb, hcase⟩
          obtain ⟨u, hu, hru⟩ := hra.val hz
          have hul := HTX.out u (List.mem_of_getElem? hu)
          apply Exists.intro
          refine ⟨?_, .inl ?_⟩
          · intro K hK
            simp only [List.setIfInBounds_toArray, List.set_cons_succ, List.set_cons_zero]
            gi_wp2
            exact hK
          · obtain ⟨Tz, zz, hzz⟩ := hru.iface
            subst hzz
            rcases hcase with ⟨rfl, e1⟩ | ⟨hi0, acc, x', e1, hracc, htacc, hfold⟩
            · obtain ⟨d1c, d1f⟩ := cell_of_heap e1
              have HE := hide (And.intro e0 e1)
              have HR := hide (And.intro hra hru)
              have HU := hide hu
              clear e0 e1 hE0 hE1 hra hru hu hz
              gi_wp2
              have hkv3 : KeepsV W2 (W2.setCell ⟨w.heap.size + 1, 0, none⟩ (.iface Tz zz)) := keepsV_set HE.out.2 nStill46
              refine ⟨KeepsOthers.setCell _ _ _, hkv3, (heap_set_other _ (by omega)).trans HE.out.1, HR.out.1.keep hkv3, below_set hb (by omega), .inr ⟨by omega, u, _, heap_set HE.out.2 _, HR.out.2.keep hkv3, hul, foldAll_first HU.out⟩⟩
            · obtain ⟨Ta, za, hza⟩ := hracc.iface
              subst hza
              have hpc := plus_calls hracc hru htacc hul
              obtain ⟨d1c, d1f⟩ := cell_of_heap e1
              by_cases he : (plusF acc u).1 = 0
              · have hpc2 : Hid (Calls Try.prog 74 #[.iface Ta za, .iface Tz zz] W2 fun e w' => ∃ T' z', e = .returned (.tuple #[.iface T' z', .int .i64 0]) ∧ Rep w' (plusF acc u).2 (.iface T' z') ∧ (text (plusF acc u).2).length ≤ 30 ∧ Below W2.heap.size W2 w') := hide (hpc.mono (by
                  rintro e w' ⟨hbw, z', rfl, ⟨_, hr, ht⟩ | ⟨hn, _⟩⟩
                  · obtain ⟨T', z', rfl⟩ := hr.iface
                    exact ⟨T', z', by rw [he], hr, ht, hbw⟩
                  · exact absurd he hn))
                have HE := hide (And.intro e0 e1)
                have HR := hide hra
                have HX := hide (foldAll_step hfold hu he)
                clear e0 e1 hE0 hE1 hra hru hu hz hracc hfold hpc he
                gi_wp2_with fail
                refine ⟨trivial, (CallsIn.inRound l (callsIn_wide.2 hpc2.out)).mono ?_⟩
                rintro e W3 ⟨T', z', rfl, hr3, ht3, hb3⟩
                have d1 := (hb3.block _ (lt_of_heap HE.out.2)).trans HE.out.2
                obtain ⟨d3c, d3f⟩ := cell_of_heap d1
                have HD1 := hide d1
                have HR3 := hide hr3
                clear d1 hr3
                gi_wp2
                have hkv3 : KeepsV W2 (W3.setCell ⟨w.heap.size + 1, 0, none⟩ (.iface T' z')) := (KeepsV.of_below hb3).trans (keepsV_set HD1.out nStill46)
                refine ⟨(keepsOthers_below hb3).trans (KeepsOthers.setCell _ _ _), hkv3, (heap_set_other _ (by omega)).trans ((hb3.block _ (lt_of_heap HE.out.1)).trans HE.out.1), HR.out.keep hkv3, below_set (hb.trans (hb3.mono hb.size)) (by omega), .inr ⟨by omega, _, _, heap_set HD1.out _, HR3.out.keep (keepsV_set HD1.out nStill46), ht3, HX.out⟩⟩
              · have hpc2 : Hid (Calls Try.prog 74 #[.iface Ta za, .iface Tz zz] W2 fun e w' => e = .returned (.tuple #[.nilIface, .int .i64 (plusF acc u).1]) ∧ Below W2.heap.size W2 w') := hide (hpc.mono (by
                  rintro e w' ⟨hbw, z', rfl, ⟨h1, _⟩ | ⟨hn, rfl⟩⟩
                  · exact absurd h1 he
                  · exact ⟨rfl, hbw⟩))
                have HE := hide (And.intro e0 e1)
                have HX := hide (foldAll_stop hfold hu he)
                have HN := hide he
                have hne : ((plusF acc u).1 != 0) = true := by simpa using he
                clear e0 e1 hE0 hE1 hra hru hu hz hracc hfold hpc he
                generalize (plusF acc u).1 = er at *
                gi_wp2_with fail
                refine ⟨trivial, (CallsIn.inRound l (callsIn_wide.2 hpc2.out)).mono ?_⟩
                rintro e W3 ⟨rfl, hb3⟩
                have d1 := (hb3.block _ (lt_of_heap HE.out.1)).trans HE.out.1
                obtain ⟨d3c, d3f⟩ := cell_of_heap d1
                have HD1 := hide d1
                clear d1
                gi_wp2
                refine ⟨(keepsOthers_below hb3).trans (KeepsOthers.setCell _ _ _), rfl, by rw [HX.out]; exact HN.out, by rw [HX.out]; exact heap_set HD1.out _, below_set (hb.trans (hb3.mono hb.size)) (by omega)⟩
        case done =>
          rintro D W hD ⟨e0, hra, hb, hcase⟩ hK
          rcases hcase with ⟨h1, _⟩ | ⟨_, acc, x', e1, hracc, htacc, hfold⟩
          · rw [hlen.out] at h1; exact absurd h1 hp0.out
          · rw [hlen.out] at hfold
            have HX := hide (foldAll_end hfold)
            obtain ⟨c1, f1⟩ := cell_of_heap e1
            have hsw := hide (HSW.out W acc x' hb hracc)
            have HH := hide (hS.below hb)
            have HE := hide e0
            clear e0 e1 hE0 hE1 hra hfold hracc
            gi_wp2_with (refine ⟨trivial, ?_⟩; gi_at_call 72; refine (callsIn_wide.2 hsw.out).mono ?_; rintro e W3 ⟨rfl, hm⟩; have HD3 := hide (hm.keepsBlock HH.out HE.out (by decide) (by decide)); obtain ⟨d3c, d3f⟩ := cell_of_heap HD3.out)
            have hm4 : Moved w s g false (lay 1 acc vs).2 (W3.setCell ⟨w.heap.size, 0, none⟩ (.int .i64 0)) := (Moved.after hb hm).set (Nat.le_refl _) HD3.out (by decide) (by decide) nStill22
            have hK3 := ((Moved.keepsOthers HH.out hm).trans (KeepsOthers.setCell W3 ⟨w.heap.size, 0, none⟩ (.int .i64 0))).same D _ hK rfl
            refine ⟨by simp, .inl ⟨_, _, rfl, run_takeDeferred hK3, ?_⟩⟩
            refine ⟨_, results_cell1 rfl _ _ _ _ rfl (cell_of_heap ((World.putObj_heap_other (by omega)).trans (heap_set HD3.out _))).1, ?_, ?_⟩
            · rw [HF.out, HX.out]; rfl
            · rw [HF.out, HX.out]
              exact hm4.shut (by omega) hK3 rfl _
        case stop =>
          rintro D c W hD ⟨rfl, hne, e0, hb⟩ hK
          refine wpIn_ret ?_
          refine ⟨by simp, .inl ⟨_, _, rfl, run_takeDeferred hK, ?_⟩⟩
          refine ⟨_, results_cell1 rfl _ _ _ _ rfl (cell_of_heap ((World.putObj_heap_other (by omega)).trans e0)).1, ?_, ?_⟩
          · rw [HF.out, if_pos hne]
          · rw [HF.out, if_pos hne]
            exact (Moved.below hS hb).shut (by omega) hK rfl _
        case pan => intro D ch W _ h _; exact h.elim
    · have hcf : canIter (top vs) = false := by simpa using hc
      have H : Hid (foldF vs = (5, vs)) := by unfold foldF; rw [if_neg h0, if_neg hc]; exact rfl
      rw [hcf] at hta
      simp only [Bool.false_eq_true, if_false] at hta
      have hlk := lack1 (h.below hA) hn5
      rw [if_neg h0] at hlk
      have hlk := hide hlk
      clear h hr hx hc hcf
      go_enter Try.func44, Try.ntmps44
      go_wp2_with (first | (go_at_call 73; refine hpk.out.mono ?_; rintro e w' ⟨rfl, hw⟩; subst w') | (go_at_call 75; refine hlk.out.mono ?_; rintro e w' ⟨rfl, hw⟩; subst w'))
      refine bodyPost_ret (results_cell1 rfl _ _ _ _ rfl (cell_new _ _ _)) rfl ?_
      exact ⟨by rw [H.out], by rw [H.out]; exact Moved.below hS (below_alloc (Below.refl _ _))⟩
end
end Go.Proofs.Qxb6500606a
