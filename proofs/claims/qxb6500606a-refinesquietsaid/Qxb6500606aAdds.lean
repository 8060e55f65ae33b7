/-
  The kinds' Add.
-/
import Derived.Test.Qxb6500606aFind
import Derived.Maps.AppendAt
namespace Go.Proofs.Qxb6500606a
open Go.ChangeShapes Go.WideShapes Go.ChangeAt Go.RowKit Go.Shelf
attribute [local go_sem] Oper.semAt_some str_size str_app str_app1 str_1app str_toList
set_option linter.unusedVariables false

/-- A method called on an interface value, one argument. -/
theorem wpList_invoke1 {ops : Array Oper} {rest : List Oper} {o : Oper} {a : Act} {w : World} {Q : Exit → Act → World → Prop} (hgd : o.guard = none) (t u : Operand) (nm : String) (ats : Array TypeId)
    (ho : o.op = .call { callee := .invoke t nm, args := #[u], argTypes := ats }) (x y : Value) (hx : a.eval t = x) (hy : a.eval u = y) (f : FuncId) (args : Array Value)
    (hinv : (invoke (.fn (.method nm) #[]) #[x, y]).run Try.prog w = .ok (.enter f args) w) (R : Ending → World → Prop) (hc : Calls Try.prog f args w R)
    (h : ∀ e w', R e w' → ∃ v, e = .returned v ∧ wpList Try.prog ops Q rest (a.put o.dst v) w') : wpList Try.prog ops Q (o :: rest) a w := by
  refine wpList_plain hgd fun K hK => ?_
  unfold Oper.wp
  have e : (execOp a.eval o).run Try.prog w = .ok (.enter f args) w := by
    unfold execOp
    simp only [ho, resolve, Sem.run_bind, Sem.run_pure, Result.andThen_ok, hx, hy, List.map_toArray, List.map_cons, List.map_nil, List.append_toArray, List.cons_append, List.nil_append]
    exact hinv
  rw [e, Oper.upon_enter]
  refine hc.mono ?_
  intro e w' hr
  obtain ⟨v, rfl, hv⟩ := h e w' hr
  exact hK _ _ hv

theorem inv_add_int (n : Int) (y : Value) (w : World) : (invoke (.fn (.method "Add") #[]) #[.iface 82 (.int .i64 n), y]).run Try.prog w = .ok (.enter 106 #[.int .i64 n, y]) w := by kernel_rfl
theorem inv_add_str (s : ByteArray) (y : Value) (w : World) : (invoke (.fn (.method "Add") #[]) #[.iface 83 (.string s), y]).run Try.prog w = .ok (.enter 109 #[.string s, y]) w := by kernel_rfl
theorem inv_add_list (p : Option Addr) (y : Value) (w : World) : (invoke (.fn (.method "Add") #[]) #[.iface 84 (.pointer p), y]).run Try.prog w = .ok (.enter 112 #[.pointer p, y]) w := by kernel_rfl

theorem as_str_no {w : World} {v : V} {x : Value} (h : Rep w v x) (hk : kind v ≠ 2) (W : World) : (Instr.typeAssert x 60 83 true).run Try.prog W = .ok (.tuple #[.string ByteArray.empty, .bool false]) W := by
  rcases rep_cases h with ⟨rfl, rfl⟩ | ⟨n, rfl, hn, rfl⟩ | ⟨s, rfl, rfl⟩ | ⟨l, r, b, y, q, rfl, _, rfl, _⟩ | ⟨l, r, b, y, q, rfl, rfl, _⟩
  · kernel_rfl
  · kernel_rfl
  · exact absurd rfl hk
  · kernel_rfl
  · kernel_rfl
theorem as_str {w : World} {v : V} {x : Value} (h : Rep w v x) (hk : kind v = 2) : v = vstr (bytes v) ∧ ∀ W, (Instr.typeAssert x 60 83 true).run Try.prog W = .ok (.tuple #[.string (str (bytes v)), .bool true]) W := by
  rcases rep_cases h with ⟨rfl, rfl⟩ | ⟨n, rfl, hn, rfl⟩ | ⟨s, rfl, rfl⟩ | ⟨l, r, b, y, q, rfl, _, rfl, _⟩ | ⟨l, r, b, y, q, rfl, rfl, _⟩
  · cases hk
  · cases hk
  · exact ⟨rfl, fun W => by kernel_rfl⟩
  · cases hk
  · cases hk

theorem add_int_ok {w : World} (n : Int) {v : V} {y : Value} (h : Rep w v y) (hk : kind v = 1) :
    Calls Try.prog 106 #[.int .i64 n, y] w fun e w' => e = .returned (.tuple #[.iface 82 (.int .i64 (wr (n + num v))), .int .i64 0]) ∧ w' = w := by
  have hta := (as_int h hk).2.2.2
  clear h
  go_enter Try.func106, Try.ntmps106
  go_wp2
  go_ret2
  exact ⟨by rw [← wr_eq]; rfl, rfl⟩
theorem add_int_no {w : World} (n : Int) {v : V} {y : Value} (h : Rep w v y) (hk : kind v ≠ 1) :
    Calls Try.prog 106 #[.int .i64 n, y] w fun e w' => e = .returned (.tuple #[.nilIface, .int .i64 6]) ∧ w' = w := by
  have hta := as_int_no h hk
  clear h
  go_enter Try.func106, Try.ntmps106
  go_wp2
  go_ret2
  exact ⟨rfl, rfl⟩
theorem add_str_ok {w : World} (s : List UInt8) (hs : s.length ≤ 1000) {v : V} {y : Value} (h : Rep w v y) (hk : kind v = 2) (hv : (bytes v).length ≤ 1000) :
    Calls Try.prog 109 #[.string (str s), y] w fun e w' => e = .returned (.tuple #[.iface 83 (.string (str (s ++ bytes v))), .int .i64 0]) ∧ w' = w := by
  have hta := (as_str h hk).2
  clear h
  go_enter Try.func109, Try.ntmps109
  go_wp2
  go_ret2
  exact ⟨rfl, rfl⟩
theorem add_str_no {w : World} (s : List UInt8) {v : V} {y : Value} (h : Rep w v y) (hk : kind v ≠ 2) :
    Calls Try.prog 109 #[.string (str s), y] w fun e w' => e = .returned (.tuple #[.nilIface, .int .i64 6]) ∧ w' = w := by
  have hta := as_str_no h hk
  clear h
  go_enter Try.func109, Try.ntmps109
  go_wp2
  go_ret2
  exact ⟨rfl, rfl⟩
theorem add_list_no {w : World} (p : Option Addr) {v : V} {y : Value} (h : Rep w v y) (hk : kind v ≠ 3) :
    Calls Try.prog 112 #[.pointer p, y] w fun e w' => e = .returned (.tuple #[.nilIface, .int .i64 6]) ∧ w' = w := by
  have hta := as_list_no h hk
  clear h
  go_enter Try.func112, Try.ntmps112
  go_wp2
  go_ret2
  exact ⟨rfl, rfl⟩

/-- An append onto a row of Values keeps what is never written. -/
theorem keepsV_grown {W W' : World} {base n : Nat} {v : Value} {xs : List Value} (hr : W.ownsRow base 60 1 v n xs) (hg : W.grownBy W' v.ownBlock) : KeepsV W W' := by
  intro b c t ht e
  refine (hg.block b (lt_of_heap e) fun e' => ?_).trans e
  rcases hr.2 with ⟨rfl, _⟩ | ⟨g, cap, cur, rfl, _, hgb, _⟩
  · simp [Value.ownBlock] at e'
  · obtain rfl : b = g := by simpa [Value.ownBlock] using e'
    rw [e] at hgb
    simp at hgb
    exact nStill46 (hgb.2 ▸ ht)

/-- The elements from k on, laid onto b. -/
def onto (E : List V) (b : V) : V := E.foldr vcons b
theorem onto_elems : ∀ (l b : V), isL l = true → (∀ x, x ∈ [l] → True) → (∃ w p, Rep w l (.iface 84 (.pointer p))) → appL l b = onto (elems l) b := by
  intro l
  induction l with
  | nil => intro b _ _ _; rfl
  | node t o a h r ihh ihr =>
    rintro b hL _ ⟨w, p, hw⟩
    cases p with
    | none => exact absurd (rep_list_none hw) (by simp)
    | some p =>
      obtain ⟨l1, r1, b1, y, q, hv, hLr, _, _, _, h2⟩ := rep_list_some hw
      cases hv
      show vcons h (appL r b) = vcons h (onto (elems r) b)
      rw [ihr b hLr (fun _ _ => trivial) ⟨w, q, h2⟩]
theorem onto_drop {E : List V} {b : V} {k : Nat} (h : k < E.length) : onto (E.drop k) b = vcons E[k] (onto (E.drop (k + 1)) b) := by
  unfold onto
  rw [List.drop_eq_getElem_cons h]
  rfl
theorem onto_isL {E : List V} {b : V} (hb : isL b = true) : isL (onto E b) = true := by
  cases E with
  | nil => exact hb
  | cons => rfl

theorem infoSl : (Try.prog.info? 60).map (fun i => (i.zero, i.size, i.bytes)) = some (some .nilIface, 1, 16) := by kernel_rfl

set_option maxHeartbeats 1000000 in
theorem add_list_ok {w : World} {l v : V} {p : Option Addr} {y : Value} (hl : Rep w l (.iface 84 (.pointer p))) (hLl : isL l = true) (hlen : (elems l).length ≤ 1000) (h : Rep w v y) (hk : kind v = 3) :
    Calls Try.prog 112 #[.pointer p, y] w fun e w' => ∃ r, e = .returned (.tuple #[.iface 84 (.pointer r), .int .i64 0]) ∧ Rep w' (appL l v) (.iface 84 (.pointer r)) ∧ Below w.heap.size w w' := by
  obtain ⟨q0, rfl, hLv, hta⟩ := as_list h hk
  obtain ⟨ys, hch, hrep⟩ := chain_of_rep hl
  have hB1 : Below w.heap.size w (w.alloc (.cells #[.slice none 0 0] 44)) := below_alloc (Below.refl _ _)
  have hall := hide (all_list p (w.alloc (.cells #[.slice none 0 0] 44)))
  have hW0B : Below w.heap.size w ((w.alloc (.cells #[.slice none 0 0] 44)).alloc (.cells #[.pointer p] 84)) := below_alloc hB1
  have hwalk : Walks 4 116 #[.pointer (some ⟨w.heap.size + 1, 0, none⟩)] ys ((w.alloc (.cells #[.slice none 0 0] 44)).alloc (.cells #[.pointer p] 84)) :=
    walks_list (by have := heap_alloc_new (w.alloc (.cells #[.slice none 0 0] 44)) (.cells #[.pointer p] 84); simpa using this) (hch.keep (.of_below hW0B))
  have hbox : Boxed ((w.alloc (.cells #[.slice none 0 0] 44)).alloc (.cells #[.pointer p] 84)) w.heap.size 44 (.slice none 0 0) := (Boxed.new w _ _).alloc _
  have HYS := hide hrep.length
  have hyl : ys.length ≤ 1000 := by rw [hrep.length]; exact hlen
  have HR := hide hrep
  have HV := hide h
  have HL := hide hl
  have HLL := hide hLl
  have HLV := hide hLv
  clear hch hrep h hl hk hlen
  refine (callsIn_wide (n := 5)).1 (callsIn_of_wp_marks Try.func112 rfl trivial ?_ rfl)
  simp only [Try.ntmps112, List.size_toArray, List.length_cons, List.length_nil, Nat.reduceAdd, Nat.reduceSub, Array.replicate_succ, Array.replicate_zero, List.push_toArray, List.append_toArray, List.nil_append, List.cons_append]
  gi_wp2_with fail
  refine ⟨trivial, (callsIn_wide.2 hall.out).mono ?_⟩
  rintro e w' ⟨rfl, hw⟩
  subst w'
  gi_wp2_with fail
  have hsz0 : ((w.alloc (.cells #[.slice none 0 0] 44)).alloc (.cells #[.pointer p] 84)).heap.size = w.heap.size + 1 + 1 := by simp
  generalize hW0 : ((w.alloc (.cells #[.slice none 0 0] 44)).alloc (.cells #[.pointer p] 84)) = W0 at *
  clear hW0
  refine range_law rfl (enters_of Try.func116 (by kernel_rfl) rfl) hwalk
    (fun i W => (∃ v, Boxed W w.heap.size 44 v ∧ W.ownsRow w.heap.size 60 1 v i (ys.take i)) ∧ RepAll W (elems l) ys ∧ Below w.heap.size w W)
    (fun c W => False) (fun _ _ => False)
    ?own ownFrom_false ownFrom_false ?start ?round ?done ?stop ?pan
  case pan => intro D ch W _ h _; exact h.elim
  case stop => intro D ch W _ h _; exact h.elim
  case start =>
    exact ⟨⟨_, hbox, World.ownsRow_nil _ _ _ _⟩, HR.out.keep (.of_below hW0B), hW0B⟩
  case own =>
    intro i W W' row hs hg hr
    have hkv : KeepsV W W' := by
      intro b c t _ e
      refine (hg.block b (lt_of_heap e) fun e' => ?_).trans e
      obtain ⟨_, o, ho, hc'⟩ := hr b e'.symm
      rw [e] at ho; cases ho; cases hc'
    obtain ⟨v1, h1, h2, _⟩ := holdsRow_own w.heap.size w.heap.size 44 60 1 (fun i => i) (fun i => ys.take i) (fun _ _ => True) i W W' row (by obtain ⟨v1, h1, h2⟩ := hs.1; exact ⟨v1, h1, h2, trivial⟩) hg (fun r e => (hr r e).2)
    exact ⟨⟨v1, h1, h2⟩, hs.2.1.keep hkv, ownFrom_below (Nat.le_refl _) (by omega) () W W' row hs.2.2 hg hr⟩
  case round =>
    rintro ll i z W W2 hz ⟨⟨v1, hv1, hrow⟩, hra, hb⟩
    obtain ⟨u, hu, hru⟩ := hra.val hz
    obtain ⟨T, z, rfl⟩ := hru.iface
    have hi5 := (List.getElem?_eq_some_iff.1 hz).1
    obtain ⟨i0, hi, hz0, hz1, hz2⟩ := info_parts infoSl
    have hvc := hv1.cell
    have HZ := hide hz
    have HRA := hide hra
    clear hz hra hu hru
    apply Exists.intro
    refine ⟨?_, .inl ?_⟩
    · intro K hK
      simp only [List.setIfInBounds_toArray, List.set_cons_succ, List.set_cons_zero]
      gi_wp2
      exact hK
    · gi_wp2_with (gi_at_builtin; refine wpListIn_append_own _ rfl _ _ 44 rfl w.heap.size 60 i0 .nilIface 1 16 Try.underlying44 hi hz0 hz1 hz2 rfl (by decide) _ _ _ rfl (hrow.alloc _) ⟨W2.heap.size, 0, none⟩ 1 1 [.iface T z] rfl rfl (cell_one_new _ _ _) (by simp [Value.oneCell']) (by simp only [maxLen]; omega) (by omega) (by have := hb.size; simp; omega) ?_; intro v' w1 hown' hgrow _; obtain ⟨g', cap', rfl⟩ := ownsRow_succ hown'; obtain ⟨hv1', hv2, hr2, hk2, hb2⟩ := hv1.appended (by decide) hrow hb.size (Nat.le_refl _) hown' hgrow; have hc1 := hv1'.cell; have hf1 := hv1'.frozen)
      have hkv : KeepsV W2 (w1.setCell ⟨w.heap.size, 0, none⟩ (.slice (some ⟨g', 0, none⟩) (i + 1) cap')) :=
        ((KeepsV.of_below ((Below.refl _ _).alloc (Nat.le_refl _) _)).trans (keepsV_grown (hrow.alloc _) hgrow)).trans (keepsV_set hv1' nStill33)
      refine ⟨hk2, hkv, ⟨_, hv2, ?_⟩, HRA.out.keep hkv, hb.trans hb2⟩
      have : ys.take (i + 1) = ys.take i ++ [.iface T z] := by rw [List.take_add_one, HZ.out]; rfl
      rw [this]
      exact hr2
  case done =>
    rintro D W hD ⟨⟨v1, hv1, hrow⟩, hra, hb⟩ hK
    rw [List.take_length] at hrow
    obtain ⟨a0, cap0, rfl⟩ := ownsRow_slice hrow
    have hvc := hv1.cell
    have HD := hide hK
    have HV1 := hide hv1
    have HROW := hide hrow
    have HRA := hide hra
    clear hK hv1 hrow hra hbox hwalk
    generalize hyn : ys.length = n at *
    have HN := hide hyn
    clear hyn
    gi_wp2_with fail
    gi_loopw [6, 10] (fun sm i wr => ∃ (k : Nat) (r : Option Addr), k ≤ n ∧ i = .int .i64 ((k : Int) - 1) ∧ sm = .pointer r ∧ Rep wr (onto ((elems l).drop k) v) (.iface 84 (.pointer r)) ∧ Below W.heap.size W wr)
      (fun _ i _ => (intOf i + 1).toNat)
    case atStart =>
      refine ⟨n, q0, Nat.le_refl _, rfl, rfl, ?_, Below.refl _ _⟩
      rw [List.drop_of_length_le (by rw [← HYS.out]; exact Nat.le_refl _)]
      exact HV.out.below hb
    case round =>
      obtain ⟨k, r, hk, rfl, rfl, hrp, hbr⟩ := hrel
      have hv1r : wr.cell? ⟨w.heap.size, 0, none⟩ = some (.slice a0 n cap0) := (hbr.cell (p := ⟨w.heap.size, 0, none⟩) HV1.out.lt).trans HV1.out.cell
      by_cases hk0 : k = 0
      · subst hk0
        have HP := hide hrp
        clear hrp
        gi_wp2_with fail
        have hK3 : wr.heap[D]? = some (.deferred (some [])) := (hbr.block D (lt_of_heap HD.out)).trans HD.out
        refine ⟨by simp, .inl ⟨_, _, rfl, run_takeDeferred hK3, ?_⟩⟩
        have hBw : Below w.heap.size w wr := hb.trans (hbr.mono hb.size)
        refine ⟨_, results_tmp2 rfl _ _ _, r, rfl, ?_, Below.shut hBw (by omega) _⟩
        have := HP.out
        rw [List.drop_zero, ← onto_elems l v HLL.out (fun _ _ => trivial) ⟨w, p, HL.out⟩] at this
        refine this.keep ?_
        intro b c t _ e
        refine (World.putObj_heap_other ?_).trans e
        intro e'
        subst e'
        rw [e] at hK3
        cases hK3
      · obtain ⟨j, rfl⟩ : ∃ j, k = j + 1 := ⟨k - 1, by omega⟩
        have hown : wr.ownsRow w.heap.size 60 1 (.slice a0 n cap0) n ys := HROW.out.kept (row := none) ⟨hbr.os, hbr.tape, hbr.output, hbr.size, fun b hb' _ => hbr.block b hb'⟩ (by cases hq : (Value.slice a0 n cap0).ownBlock <;> simp)
        have hjl : j < (elems l).length := by rw [← HYS.out]; omega
        obtain ⟨z, hz1, hz2⟩ := (HRA.out.keep (.of_below hbr)).get j (List.getElem?_eq_getElem hjl)
        obtain ⟨T, z, rfl⟩ := hz2.iface
        obtain ⟨b0, rfl⟩ : ∃ b0, a0 = some ⟨b0, 0, none⟩ := by
          rcases hown.2 with ⟨_, h0⟩ | ⟨b0, cap1, cur, h1, _⟩
          · omega
          · simp only [Value.slice.injEq, true_and] at h1
            exact ⟨b0, h1.1⟩
        have hcz : wr.cell? ⟨b0, j, none⟩ = some (.iface T z) := by rw [hown.cellAt j (by omega), hz1]
        have HP := hide hrp
        have HZ2 := hide hz2
        have HJ := hide hjl
        have hzr := lt_of_heap ((hbr.block _ HV1.out.lt).trans HV1.out)
        have hb0lt : b0 < wr.heap.size := (hown.lt b0 rfl).2
        clear hrp hz2 hz1 hown
        gi_wp2_with fail
        go_roundw
        case rel =>
          have hB : Below wr.heap.size wr (wr.alloc (.cells #[.iface T z, .pointer r] 89)) := (Below.refl _ _).alloc (Nat.le_refl _) _
          refine ⟨j, some ⟨wr.heap.size, 0, none⟩, by omega, by go_num, rfl, ?_, hbr.trans (hB.mono hbr.size)⟩
          rw [onto_drop HJ.out]
          exact rep_cons (onto_isL HLV.out) (heap_alloc_new wr _) (HZ2.out.below hB) (HP.out.below hB)
        case measure => simp [intOf]
end Go.Proofs.Qxb6500606a
