/-
  spread: a panic in a round passes through the iterator.
-/
import Derived.Test.Qxb6500606aBare
namespace Go.Proofs.Qxb6500606a
open Go.ChangeShapes Go.WideShapes Go.ChangeAt Go.RowKit Go.Shelf
attribute [local go_sem] Oper.semAt_some
set_option linter.unusedVariables false

theorem stepR_value {b : Frame} {a : Act} {k : List Item} {cs : List Frame} {w w' : World} {ops : Array Oper} {i : Nat} {rest : List Nat} {o : Oper} {v : Value} (ho : ops[i]? = some o) (hw : Region.wanted o (yielded ops a.tmps) = true)
    (hr : (o.semAt b.roundOf a.eval).run Try.prog w = .ok (.value v) w') :
    step Try.prog (lone (b.atR a (.inRegion ops (i :: rest) :: k)) cs w) = .next (lone (b.atR (a.put o.dst v) (.inRegion ops rest :: k)) cs w') := by
  have hfin : (b.atR a (.inRegion ops (i :: rest) :: k)).finish v = b.atR (a.put o.dst v) (.inRegion ops rest :: k) := by rw [Frame.finish_atR, ho]; rfl
  refine step_lone_go ?_
  rw [stepGR_op ho hw, ← hfin]
  simp [stepG.apply, hr]
theorem stepR_enter {b : Frame} {a : Act} {k : List Item} {cs : List Frame} {w w' : World} {ops : Array Oper} {i : Nat} {rest : List Nat} {o : Oper} {f : FuncId} {args : Array Value} (ho : ops[i]? = some o) (hw : Region.wanted o (yielded ops a.tmps) = true)
    (hr : (o.semAt b.roundOf a.eval).run Try.prog w = .ok (.enter f args) w') :
    step Try.prog (lone (b.atR a (.inRegion ops (i :: rest) :: k)) cs w) = .next (lone (Frame.enter Try.prog f args .normal) (b.atR a (.inRegion ops (i :: rest) :: k) :: cs) w') := by
  refine step_lone_go ?_
  rw [stepGR_op ho hw]
  simp [stepG.apply, hr, Frame.atR]
theorem stepR_unwind {b c : Frame} {a : Act} {k : List Item} {cs : List Frame} {w : World} {ops : Array Oper} {l : List Nat} {chain : List PanicEntry} (hd : a.defers = []) :
    step Try.prog (lone ((b.atR a (.inRegion ops l :: k)).raise chain) (c :: cs) w) = .next (lone (c.raise chain) cs w) := by
  refine step_lone_go ?_
  simp [stepG, unwind, Frame.catches, Frame.raise, Frame.atR, hd]

/-- A round's body that comes to a call which panics. -/
theorem panicsIn_call {l id rid : Nat} {ops : Array Oper} {o0 o1 o2 : Oper} {a : Act} {W : World} {chain : List PanicEntry} {R : World → Prop} {v0 v1 : Value} {f : FuncId} {args : Array Value}
    (h3 : ops = #[o0, o1, o2]) (g0 : o0.guard = none) (g1 : o1.guard = none) (g2 : o2.guard = none) (hd : a.defers = [])
    (r0 : (o0.semAt (some l) a.eval).run Try.prog W = .ok (.value v0) W) (r1 : (o1.semAt (some l) (a.put o0.dst v0).eval).run Try.prog W = .ok (.value v1) W)
    (r2 : (o2.semAt (some l) ((a.put o0.dst v0).put o1.dst v1).eval).run Try.prog W = .ok (.enter f args) W)
    (hc : Calls Try.prog f args W fun e w' => e = .panicked chain ∧ R w') : PanicsIn l (.block id (.region rid ops false)) a W chain R := by
  intro b c cs hb
  subst h3
  have put_d : ∀ (x : Act) (d : Option Tmp) (v : Value), x.defers = [] → (x.put d v).defers = [] := fun x d v hx => by cases d <;> simp [Act.put, hx]
  have hw : ∀ (o : Oper) (y : List Bool), o.guard = none → True := fun _ _ _ => trivial
  have s0 : Steps Try.prog (lone (b.atR a [.code (.block id (.region rid #[o0, o1, o2] false))]) (c :: cs) W) (lone (b.atR a [.inRegion #[o0, o1, o2] [0, 1, 2], .inBlock id]) (c :: cs) W) :=
    .head stepR_block (.one stepR_region)
  have s1 := stepR_value (b := b) (k := [.inBlock id]) (cs := c :: cs) (rest := [1, 2]) (ops := #[o0, o1, o2]) (i := 0) (o := o0) (a := a) (w := W) rfl (by simp [Region.wanted, g0]) (by rw [hb]; exact r0)
  have s2 := stepR_value (b := b) (k := [.inBlock id]) (cs := c :: cs) (rest := [2]) (ops := #[o0, o1, o2]) (i := 1) (o := o1) (a := a.put o0.dst v0) (w := W) rfl (by simp [Region.wanted, g1]) (by rw [hb]; exact r1)
  have s3 := stepR_enter (b := b) (k := [.inBlock id]) (cs := c :: cs) (rest := []) (ops := #[o0, o1, o2]) (i := 2) (o := o2) (a := (a.put o0.dst v0).put o1.dst v1) (w := W) rfl (by simp [Region.wanted, g2]) (by rw [hb]; exact r2)
  obtain ⟨e, w', fr, ⟨rfl, hR⟩, hcome, hfn, hleave⟩ := hc (b.atR ((a.put o0.dst v0).put o1.dst v1) [.inRegion #[o0, o1, o2] [2], .inBlock id] :: c :: cs)
  refine ⟨w', hR, ?_⟩
  have s4 := step_leave_panicked (c := b.atR ((a.put o0.dst v0).put o1.dst v1) [.inRegion #[o0, o1, o2] [2], .inBlock id]) (cs := c :: cs) hleave
  have s5 := stepR_unwind (b := b) (c := c) (cs := cs) (w := w') (a := (a.put o0.dst v0).put o1.dst v1) (ops := #[o0, o1, o2]) (l := [2]) (k := [.inBlock id]) (chain := chain) (put_d _ _ _ (put_d _ _ _ hd))
  exact s0.trans (.head s1 (.head s2 (.head s3 (Steps.trans hcome (.head s4 (.one s5))))))

theorem wpListIn_all1 {n m : Nat} {x : Value} {v : V} {W : World} (hA : AllsAt m W x v) {ops : Array Oper} {rest : List Oper} {a : Act} {Q : Exit → Act → World → Prop} {t : Operand} {ats : Array TypeId} {dst : Option Tmp} {ty : TypeId} {pos : String} {af : Array Edge}
    (hx : a.eval t = x)
    (h : ∀ gf ob ys, (∀ args w, (callFunc gf args).run Try.prog w = .ok (.enter gf args) w) → RepAll W (parts v) ys → Walks m gf #[.pointer (some ⟨W.heap.size, 0, none⟩)] ys (W.alloc ob) →
      wpListIn Fence.wide n Try.prog ops Q rest (a.put dst (.func (.func gf) #[] #[.pointer (some ⟨W.heap.size, 0, none⟩)])) (W.alloc ob)) :
    wpListIn Fence.wide n Try.prog ops Q ({ dst := dst, op := .call { callee := .invoke t "All", args := #[], argTypes := ats }, type := ty, pos := pos, after := af, guard := none } :: rest) a W := by
  obtain ⟨f, args, gf, ob, ys, hinv, hc, hcf, hrep, hwalk⟩ := hA
  refine wpListIn_invoke wideFn rfl rfl t "All" ats rfl x hx f args hinv _ (callsIn_wide.2 hc) ?_
  rintro e w' ⟨rfl, rfl⟩
  exact ⟨_, rfl, h gf ob ys hcf hrep hwalk⟩
theorem Moved.alloc {w W : World} {s : Nat} {g : Option Nat} {busy : Bool} {vs : St} (hm : Moved w s g busy vs W) (o : Obj) : Moved w s g busy vs (W.alloc o) := by
  obtain ⟨g', h1, h2, h3⟩ := hm
  exact ⟨g', h1.below (below_alloc (Below.refl _ _)), h2, h3.alloc _⟩
/-- Two moves, one after the other. -/
theorem Moved.step {w W W' : World} {s : Nat} {g : Option Nat} {busy : Bool} {vs vs' : St} (hm : Moved w s g busy vs W) (h : ∀ g', Stk W s g' busy vs → Moved W s g' busy vs' W') : Moved w s g busy vs' W' := by
  obtain ⟨g', h1, h2, h3⟩ := hm
  exact Moved.then h2 h3 (h g' h1)
theorem Moved.own {β : Type} {B : Nat} {w : World} {s : Nat} {g : Option Nat} {busy : Bool} {vs : St} (hB : w.heap.size ≤ B) : OwnFrom B (fun (_ : β) W => Moved w s g busy vs W) := by
  intro x W W' row hm hg hr
  obtain ⟨g', h1, h2, h3⟩ := hm
  refine ⟨g', h1.turn hg (fun r e => ?_), h2, h3.grown hg (fun k hk => .inr ?_)⟩
  · obtain ⟨_, o, ho, hc⟩ := hr r e
    exact ⟨o, ho, hc⟩
  · exact Nat.le_trans hB (hr k hk).1

section
variable {w : World} {s : Nat} {g : Option Nat} {vs : List V}
set_option maxHeartbeats 400000 in
theorem spread_fails (vs' : St) {x : Value} (htk : Calls Try.prog 86 #[.pointer (some ⟨s, 0, none⟩)] (w.alloc (.cells #[.pointer (some ⟨s, 0, none⟩)] 33)) fun e w' => e = .returned x ∧ Moved w s g true vs' w') (hf : Fails x 103) (hr : spreadF vs = (5, vs)) :
    Calls Try.prog 77 #[.pointer (some ⟨s, 0, none⟩)] w (WordOut w s g vs (spreadF vs)) := by
  have HF := hide hf
  have H := hide hr
  have htk := hide htk
  clear hr hf
  go_enter Try.func77, Try.ntmps77
  go_wp2_with (go_at_call 86; refine htk.out.mono ?_; rintro e w1 ⟨rfl, hm⟩; obtain ⟨cs, T, hf1⟩ := HF.out w1)
  refine ⟨rfl, .inr ⟨_, vs', rfl, by rw [H.out]; exact (by decide : (5 : Int) ≠ 0), by rw [H.out], .inr (.inl ⟨by rw [H.out], _, rfl⟩), ?_⟩⟩
  obtain ⟨g', h1, h2, h3⟩ := hm
  exact ⟨g', h1.below (below_alloc (Below.refl _ _)), h2, h3.alloc _⟩
set_option maxHeartbeats 1000000 in
theorem spread_calls (h : Stk w s g true vs) (hok : Okay vs) : Calls Try.prog 77 #[.pointer (some ⟨s, 0, none⟩)] w (WordOut w s g vs (spreadF vs)) := by
  have hS := h
  have hn5 := hok.1
  have hA : Below w.heap.size w (w.alloc (.cells #[.pointer (some ⟨s, 0, none⟩)] 33)) := below_alloc (Below.refl _ _)
  by_cases h0 : vs.length = 0
  · refine spread_fails vs ((take_none (h.below hA) h0).mono ?_) iter_nil (by unfold spreadF; rw [if_pos h0])
    rintro e w' ⟨rfl, rfl⟩
    exact ⟨rfl, Moved.below hS hA⟩
  · obtain ⟨x, hrx, htk⟩ := take_some (h.below hA) hn5 (by omega)
    have htk : Calls Try.prog 86 #[.pointer (some ⟨s, 0, none⟩)] (w.alloc (.cells #[.pointer (some ⟨s, 0, none⟩)] 33)) fun e w' => e = .returned x ∧ Moved (w.alloc (.cells #[.pointer (some ⟨s, 0, none⟩)] 33)) s g true (vs.take (vs.length - 1)) w' := htk
    cases hc : canIter (top vs) with
    | false =>
      refine spread_fails (vs.take (vs.length - 1)) (htk.mono ?_) (iter_fails hrx hc) (by unfold spreadF; rw [if_neg h0, hc]; rfl)
      rintro e w' ⟨rfl, hm⟩
      exact ⟨rfl, Moved.after hA hm⟩
    | true =>
      have hta := as_iter hrx
      rw [hc] at hta
      simp only [if_true] at hta
      have hth := iter_holds hrx hc
      have HF : Hid (spreadF vs = if 5 < vs.length - 1 + (parts (top vs)).length then (3, vs) else (0, vs.take (vs.length - 1) ++ parts (top vs))) := by unfold spreadF; rw [if_neg h0, hc]; exact rfl
      have htk := hide htk
      have HRX := hide hrx
      have HS1 := hide (h.below hA)
      have HA : Hid (∀ W, KeepsV (w.alloc (.cells #[.pointer (some ⟨s, 0, none⟩)] 33)) W → AllsAt 4 W x (top vs)) := fun W hW => alls (HRX.out.keep hW) hc
      have hbl : (vs.take (vs.length - 1)).length = vs.length - 1 := by simp
      clear h hrx
      generalize hb : vs.take (vs.length - 1) = base at *
      have HBX : Hid ((w.alloc (.cells #[.pointer (some ⟨s, 0, none⟩)] 33)).heap[w.heap.size]? = some (.cells #[.pointer (some ⟨s, 0, none⟩)] 33)) := heap_alloc_new _ _
      refine (callsIn_wide (n := 5)).1 (callsIn_of_wp_marks Try.func77 rfl trivial ?_ rfl)
      simp only [Try.ntmps77, List.size_toArray, List.length_cons, List.length_nil, Nat.reduceAdd, Nat.reduceSub, Array.replicate_succ, Array.replicate_zero, List.push_toArray, List.append_toArray, List.nil_append, List.cons_append]
      gi_wp2_with fail
      refine ⟨trivial, (callsIn_wide.2 htk.out).mono ?_⟩
      rintro e w1 ⟨rfl, hm⟩
      have hkv1 := HS1.out.keepsV (by obtain ⟨g', _, _, ho⟩ := hm; exact ho)
      have hbx1 := hide (hm.keepsBlock HS1.out HBX.out (by decide) (by decide))
      have hm1 := Moved.after hA hm
      clear hm
      have HA1 := hide (HA.out _ hkv1)
      gi_wp2_with (refine wpListIn_all1 HA1.out ?_ ?_; exact rfl; intro gf ob ys hcf hrep hwalk)
      simp only [Act.put, List.setIfInBounds_toArray, List.set_cons_succ, List.set_cons_zero] at hwalk ⊢
      have hsz1 : w.heap.size + 1 ≤ w1.heap.size := lt_of_heap hbx1.out
      have hkvb : KeepsV w1 (w1.alloc ob) := .of_below (below_alloc (Below.refl _ _))
      have hbx0 : (w1.alloc ob).heap[w.heap.size]? = some (.cells #[.pointer (some ⟨s, 0, none⟩)] 33) := (heap_alloc_old _ _ (lt_of_heap hbx1.out)).trans hbx1.out
      have hm0 := hm1.alloc ob
      have HREP := hide (hrep.keep hkvb)
      have hlen := hide hrep.length
      have hszW : w.heap.size ≤ (w1.alloc ob).heap.size := by simp; omega
      clear hrep hkvb hm1 hbx1 HA1 hta hth htk
      generalize hP : parts (top vs) = P at *
      generalize hW0 : w1.alloc ob = W0 at *
      clear hW0
      refine range_law rfl hcf hwalk
        (fun i W => W.heap[w.heap.size]? = some (.cells #[.pointer (some ⟨s, 0, none⟩)] 33) ∧ RepAll W P ys ∧ base.length + i ≤ 5 ∧ i ≤ P.length ∧ Moved w s g true (base ++ P.take i) W)
        (fun _ _ => False) (fun ch W => ch = thrown (.iface 25 (.int .i64 3)) ∧ 5 < base.length + P.length ∧ Moved w s g true (base ++ P.take (5 - base.length)) W)
        ?own ownFrom_false ?ownp ?start ?round ?done ?stop ?pan
      case own =>
        rintro i W W' row ⟨h1, h2, h3, h4, h5⟩ hg hr
        have hkv : KeepsV W W' := by
          intro b c t _ e
          refine (hg.block b (lt_of_heap e) fun e' => ?_).trans e
          obtain ⟨_, o, ho, hc'⟩ := hr b e'.symm
          rw [e] at ho; cases ho; cases hc'
        exact ⟨ownFrom_block () W W' row h1 hg hr, h2.keep hkv, h3, h4, Moved.own hszW () W W' row h5 hg hr⟩
      case ownp =>
        rintro ch W W' row ⟨h1, h2, h3⟩ hg hr
        exact ⟨h1, h2, Moved.own hszW () W W' row h3 hg hr⟩
      case start => exact ⟨hbx0, HREP.out, by omega, Nat.zero_le _, by simpa using hm0⟩
      case round =>
        rintro l i z W W2 hz ⟨e0, hra, hi5, hiP, hmv⟩
        obtain ⟨u, hu, hru⟩ := hra.val hz
        obtain ⟨Tz, zz, hzz⟩ := hru.iface
        subst hzz
        obtain ⟨hiu, hu'⟩ := List.getElem?_eq_some_iff.1 hu
        have hnx : base ++ P.take (i + 1) = (base ++ P.take i) ++ [u] := by
          rw [List.take_add_one, hu]; simp
        have hln : (base ++ P.take i).length = base.length + i := by simp; omega
        obtain ⟨c1, f1⟩ := cell_of_heap e0
        apply Exists.intro
        constructor
        · intro K hK
          simp only [List.setIfInBounds_toArray, List.set_cons_succ, List.set_cons_zero]
          gi_wp2
          exact hK
        · by_cases hfull : base.length + i = 5
          · refine .inr ⟨thrown (.iface 25 (.int .i64 3)), panicsIn_call rfl rfl rfl rfl rfl (v0 := .pointer (some ⟨s, 0, none⟩)) (v1 := .iface Tz zz) (f := 87) (args := #[.pointer (some ⟨s, 0, none⟩), .iface Tz zz]) ?_ ?_ ?_ ?_⟩
            · simp [go_sem, c1]
            · simp [go_sem]
            · simp [go_sem, Act.put]
            · obtain ⟨g', hst, hg', ho'⟩ := hmv
              refine (give_full hst (by omega)).mono ?_
              rintro e w' ⟨rfl, rfl⟩
              have e5 : 5 - base.length = i := by omega
              exact ⟨rfl, KeepsOthers.refl _, rfl, by omega, by rw [e5]; exact ⟨g', hst, hg', ho'⟩⟩
          · refine .inl ?_
            obtain ⟨g', hst, hg', ho'⟩ := hmv
            have hgv := give_ok hst (by omega) hru
            rw [← hnx] at hgv
            have hgv := hide hgv
            have HST := hide hst
            have HE0 := hide e0
            have HRA := hide hra
            clear hra hru hu hz e0 hu' hnx hst
            gi_wp2_with fail
            refine ⟨trivial, (CallsIn.inRound l (callsIn_wide.2 hgv.out)).mono ?_⟩
            rintro e W3 ⟨rfl, hm3⟩
            gi_wp2
            have hkv3 : KeepsV W2 W3 := HST.out.keepsV (by obtain ⟨_, _, _, h⟩ := hm3; exact h)
            exact ⟨Moved.keepsOthers HST.out hm3, hkv3, hm3.keepsBlock HST.out HE0.out (by decide) (by decide), HRA.out.keep hkv3, by omega, by omega, Moved.then hg' ho' hm3⟩
      case done =>
        rintro D W hD ⟨e0, hra, hi5, hiP, hmv⟩ hK
        rw [hlen.out] at hi5 hmv
        rw [List.take_length] at hmv
        refine ⟨by simp, .inl ⟨_, _, rfl, run_takeDeferred hK, ?_⟩⟩
        refine ⟨_, results_none rfl _ _ _, .inl ⟨rfl, ?_, ?_⟩⟩
        · rw [HF.out, if_neg (by omega)]
        · rw [HF.out, if_neg (by omega)]
          exact hmv.shut (by omega) hK rfl _
      case stop => intro D c W _ h; exact h.elim
      case pan =>
        rintro D ch W hD ⟨rfl, h5, hmv⟩ hK
        refine ⟨by simp, .inl ⟨_, _, rfl, run_takeDeferred hK, ?_⟩⟩
        refine .inr ⟨_, _, rfl, ?_, ?_, .inl ?_, hmv.shut (by omega) hK rfl _⟩
        · rw [HF.out, if_pos (by omega)]; exact (by decide : (3 : Int) ≠ 0)
        · rw [HF.out, if_pos (by omega)]
        · rw [HF.out, if_pos (by omega)]
end
end Go.Proofs.Qxb6500606a
