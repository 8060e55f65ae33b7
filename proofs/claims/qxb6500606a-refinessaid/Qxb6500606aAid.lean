/-
  Small laws for functions that hold a range over an iterator.
-/
import Derived.Test.Qxb6500606aIters
namespace Go.Proofs.Qxb6500606a
open Go.ChangeShapes Go.WideShapes Go.ChangeAt Go.RowKit Go.Shelf
attribute [local go_sem] Oper.semAt_some
set_option linter.unusedVariables false

theorem about_fn {F : Fence} (hF : ∀ f, F.fn f) (o : Oper) (w : World) (ρ : Operand → Value) : ∀ f, o.about Try.prog w ρ = some f → F.fn f := fun f _ => hF f
theorem wpListIn_invoke {F : Fence} (hF : ∀ f, F.fn f) (hd : F.depth = none) {n : Nat} {ops : Array Oper} {rest : List Oper} {o : Oper} {a : Act} {w : World} {Q : Exit → Act → World → Prop} (hgd : o.guard = none) (t : Operand) (nm : String) (ats : Array TypeId)
    (ho : o.op = .call { callee := .invoke t nm, args := #[], argTypes := ats }) (x : Value) (hx : a.eval t = x) (f : FuncId) (args : Array Value)
    (hinv : (invoke (.fn (.method nm) #[]) #[x]).run Try.prog w = .ok (.enter f args) w) (R : Ending → World → Prop) (hc : CallsIn F (n - 1) Try.prog f args w R)
    (h : ∀ e w', R e w' → ∃ v, e = .returned v ∧ wpListIn F n Try.prog ops Q rest (a.put o.dst v) w') : wpListIn F n Try.prog ops Q (o :: rest) a w := by
  refine wpListIn_plain hgd fun K hK => ?_
  refine ⟨about_fn hF o w _, ?_⟩
  have e : (o.semAt F.round a.eval).run Try.prog w = .ok (.enter f args) w := by
    have e1 : o.semAt F.round a.eval = execOp a.eval o := by unfold Oper.semAt; rw [ho]; cases F.round <;> rfl
    rw [e1]
    unfold execOp
    simp only [ho, resolve, Sem.run_bind, Sem.run_pure, Result.andThen_ok, hx, List.map_toArray, List.map_nil, Array.append_empty]
    exact hinv
  rw [e, Oper.uponIn_enter]
  refine ⟨(fun h => (by rw [hd] at h; cases h)), hc.mono ?_⟩
  intro e w' hr
  obtain ⟨v, rfl, hv⟩ := h e w' hr
  exact hK _ _ hv
theorem wideFn : ∀ f, Fence.wide.fn f := fun _ => trivial

theorem below_alloc {w W : World} {o : Obj} (h : Below w.heap.size w W) : Below w.heap.size w (W.alloc o) := h.alloc h.size o
theorem wpListIn_all {w : World} {n m : Nat} {x : Value} {v : V} (hA : ∀ W, Below w.heap.size w W → AllsAt m W x v) {W : World} {ops : Array Oper} {rest : List Oper} {a : Act} {Q : Exit → Act → World → Prop} {t : Operand} {ats : Array TypeId} {dst : Option Tmp} {ty : TypeId} {pos : String} {af : Array Edge}
    (hB : Below w.heap.size w W) (hx : a.eval t = x)
    (h : ∀ gf ob ys, (∀ args w, (callFunc gf args).run Try.prog w = .ok (.enter gf args) w) → RepAll W (parts v) ys → Walks m gf #[.pointer (some ⟨W.heap.size, 0, none⟩)] ys (W.alloc ob) →
      wpListIn Fence.wide n Try.prog ops Q rest (a.put dst (.func (.func gf) #[] #[.pointer (some ⟨W.heap.size, 0, none⟩)])) (W.alloc ob)) :
    wpListIn Fence.wide n Try.prog ops Q ({ dst := dst, op := .call { callee := .invoke t "All", args := #[], argTypes := ats }, type := ty, pos := pos, after := af, guard := none } :: rest) a W := by
  obtain ⟨f, args, gf, ob, ys, hinv, hc, hcf, hrep, hwalk⟩ := hA W hB
  refine wpListIn_invoke wideFn rfl rfl t "All" ats rfl x hx f args hinv _ (callsIn_wide.2 hc) ?_
  rintro e w' ⟨rfl, rfl⟩
  exact ⟨_, rfl, h gf ob ys hcf hrep hwalk⟩
theorem keepsOthers_below {W W' : World} (h : Below W.heap.size W W') : KeepsOthers W W' := ⟨h.size, fun k o hk _ => (h.block k (lt_of_heap hk)).trans hk⟩
theorem ownFrom_block {β : Type} {B b : Nat} {c : Array Value} {t : TypeId} : OwnFrom B (fun (_ : β) W => W.heap[b]? = some (.cells c t)) := by
  intro s W W' row hs hg hr
  refine (hg.block b (lt_of_heap hs) ?_).trans hs
  intro e
  obtain ⟨_, o, ho, hc⟩ := hr b e.symm
  rw [hs] at ho
  cases ho
  cases hc
theorem ownFrom_false {β : Type} {B : Nat} : OwnFrom B (fun (_ : β) (_ : World) => False) := fun _ _ _ _ h _ _ => h
theorem Stk.keepsOthers {W W' : World} {s : Nat} {g : Option Nat} {busy : Bool} {vs : St} (h : Stk W s g busy vs) (ho : Only (own s g) W W') : KeepsOthers W W' := by
  obtain ⟨a, cap, xs, h⟩ := h
  refine ⟨ho.size, fun k o hk hc => (ho.block k (lt_of_heap hk) fun hb => ?_).trans hk⟩
  obtain ⟨c, t, h1, _⟩ := own_tag h hb
  rw [hk] at h1
  cases h1
  cases hc
theorem Stk.keepsV {W W' : World} {s : Nat} {g : Option Nat} {busy : Bool} {vs : St} (h : Stk W s g busy vs) (ho : Only (own s g) W W') : KeepsV W W' := by
  obtain ⟨a, cap, xs, h⟩ := h
  exact h.keepsV ho
/-- A stack abides the turn of a block that holds no cells. -/
theorem Stk.turn {W W' : World} {s : Nat} {g : Option Nat} {busy : Bool} {vs : St} {row : Option Nat} (h : Stk W s g busy vs) (hg : W.grownBy W' row) (hr : ∀ r, row = some r → ∃ o : Obj, W.heap[r]? = some o ∧ o.isCells = false) : Stk W' s g busy vs := by
  obtain ⟨a, cap, xs, h⟩ := h
  have hne : ∀ (b : Nat) (c : Array Value) (t : TypeId), W.heap[b]? = some (.cells c t) → W'.heap[b]? = some (.cells c t) := fun b c t e => by
    refine (hg.block b (lt_of_heap e) ?_).trans e
    intro e'
    obtain ⟨o, ho, hc⟩ := hr b e'.symm
    rw [e] at ho
    cases ho
    cases hc
  refine ⟨a, cap, xs, h.only (fun b hb => ?_) (fun b c t _ e => hne b c t e)⟩
  obtain ⟨c, t, h1, _⟩ := own_tag h hb
  rw [h1]
  exact hne b c t h1
theorem Moved.keepsOthers {W W' : World} {s : Nat} {g : Option Nat} {busy busy' : Bool} {vs vs' : St} (h : Stk W s g busy vs) (hm : Moved W s g busy' vs' W') : KeepsOthers W W' := by
  obtain ⟨g', _, _, h3⟩ := hm
  exact h.keepsOthers h3
theorem Only.putObj {S : Nat → Prop} {a W : World} (h : Only S a W) {D : Nat} (hD : a.heap.size ≤ D) (o : Obj) : Only S a (W.putObj D o) :=
  ⟨h.os, h.tape, h.output, by simp; exact h.size, fun b hb hn => (World.putObj_heap_other (by omega)).trans (h.block b hb hn)⟩
theorem Moved.shut {w W : World} {s : Nat} {g : Option Nat} {busy : Bool} {vs : St} {D : Nat} {o : Obj} (hm : Moved w s g busy vs W) (hD : w.heap.size ≤ D) (h : W.heap[D]? = some o) (ho : o.isCells = false) (o' : Obj) : Moved w s g busy vs (W.putObj D o') := by
  obtain ⟨g', h1, h2, h3⟩ := hm
  exact ⟨g', h1.turn (grownBy_putObj' W D o') (fun r e => by cases e; exact ⟨o, h, ho⟩), h2, h3.putObj hD o'⟩
theorem Below.shut {w W : World} {D : Nat} (h : Below w.heap.size w W) (hD : w.heap.size ≤ D) (o' : Obj) : Below w.heap.size w (W.putObj D o') :=
  ⟨h.os, h.tape, h.output, by simp; exact h.size, fun k hk => (World.putObj_heap_other (by omega)).trans (h.block k hk)⟩

theorem findIn_at {t : List UInt8} : ∀ (P : List V) (k : Int) (i : Nat) (v : V), P[i]? = some v → text v = t → (∀ j, j < i → ∀ u, P[j]? = some u → text u ≠ t) → findIn t P k = k + i
  | [], _, _, _, h, _, _ => by simp at h
  | u :: P, k, 0, v, h, ht, _ => by simp at h; subst h; simp [findIn, ht]
  | u :: P, k, i + 1, v, h, ht, hn => by
    have h1 := hn 0 (by omega) u rfl
    have h2 := findIn_at P (k + 1) i v (by simpa using h) ht fun j hj w hw => hn (j + 1) (by omega) w (by simpa using hw)
    simp [findIn, h1, h2]; omega
theorem findIn_none {t : List UInt8} : ∀ (P : List V) (k : Int), (∀ j, j < P.length → ∀ u, P[j]? = some u → text u ≠ t) → findIn t P k = -1
  | [], _, _ => rfl
  | u :: P, k, hn => by
    have h1 := hn 0 (by simp) u rfl
    have h2 := findIn_none P (k + 1) fun j hj w hw => hn (j + 1) (by simpa using hj) w (by simpa using hw)
    simp [findIn, h1, h2]
theorem findIn_i64 (t : List UInt8) : ∀ (P : List V) (k : Int), 0 ≤ k → k + P.length ≤ 100000 → I64 (findIn t P k)
  | [], _, _, _ => by unfold findIn; constructor <;> omega
  | u :: P, k, h0, h1 => by
    simp at h1
    unfold findIn
    split
    · constructor <;> omega
    · exact findIn_i64 t P (k + 1) (by omega) (by omega)
theorem RepAll.val {w : World} {vs : List V} {xs : List Value} {i : Nat} {x : Value} (h : RepAll w vs xs) (hx : xs[i]? = some x) : ∃ v, vs[i]? = some v ∧ Rep w v x := by
  have hi := (List.getElem?_eq_some_iff.1 hx).1
  rw [h.length] at hi
  obtain ⟨x', h1, h2⟩ := h.get i (List.getElem?_eq_getElem hi)
  rw [hx] at h1
  cases h1
  exact ⟨_, List.getElem?_eq_getElem hi, h2⟩
theorem parts_text {w : World} {v : V} {x : Value} (h : Rep w v x) : ∀ u ∈ parts v, (text u).length ≤ (text v).length := by
  intro u hu
  rcases rep_cases h with ⟨rfl, rfl⟩ | ⟨k, rfl, hk, rfl⟩ | ⟨s, rfl, rfl⟩ | ⟨l, r, b, y, q, rfl, hL, rfl, hb, h1, h2⟩ | ⟨l, r, b, y, q, rfl, rfl, hb, h1, h2⟩
  · cases hu
  · cases hu
  · cases hu
  · have := elem_text h u hu
    rw [text_list (vcons l r) rfl]
    simp
    omega
  · rw [text_pair]
    rcases List.mem_cons.1 hu with rfl | hu
    · simp; omega
    · rcases List.mem_cons.1 hu with rfl | hu
      · simp; omega
      · cases hu
theorem cell_of_heap {W : World} {b : Nat} {x : Value} {t : TypeId} (h : W.heap[b]? = some (.cells #[x] t)) : W.cell? ⟨b, 0, none⟩ = some x ∧ W.frozen? ⟨b, 0, none⟩ = false :=
  ⟨by simp [World.cell?, h], frozen_of_row W b 0 _ _ h⟩
theorem heap_set {W : World} {b : Nat} {x : Value} {t : TypeId} (h : W.heap[b]? = some (.cells #[x] t)) (v : Value) : (W.setCell ⟨b, 0, none⟩ v).heap[b]? = some (.cells #[v] t) := by
  rw [heap_setCell_same W b 0 _ _ v h]; rfl
theorem heap_set_other {W : World} {b b' : Nat} (v : Value) (h : b' ≠ b) : (W.setCell ⟨b, 0, none⟩ v).heap[b']? = W.heap[b']? := Below.heap_setCell W _ v b' h
theorem below_set {w W : World} {b : Nat} {v : Value} (h : Below w.heap.size w W) (hb : w.heap.size ≤ b) : Below w.heap.size w (W.setCell ⟨b, 0, none⟩ v) := h.setCell hb v
/-- A store into a plain variable's block keeps what is never written. -/
theorem keepsV_set {W : World} {b : Nat} {x v : Value} {t : TypeId} (h : W.heap[b]? = some (.cells #[x] t)) (ht : ¬ still t) : KeepsV W (W.setCell ⟨b, 0, none⟩ v) := by
  intro b' c t' ht' e
  by_cases hb : b' = b
  · subst hb; rw [h] at e; cases e; exact absurd ht' ht
  · exact (heap_set_other v hb).trans e
theorem ownsRow_slice {w : World} {base n : Nat} {e : TypeId} {v : Value} {xs : List Value} (h : w.ownsRow base e 1 v n xs) : ∃ a cap, v = .slice a n cap := by
  rcases h.2 with ⟨rfl, rfl⟩ | ⟨g, cap, cur, rfl, _⟩
  · exact ⟨none, 0, rfl⟩
  · exact ⟨_, cap, rfl⟩
theorem nStill3 : ¬ still 3 := by unfold still; decide
theorem nStill46 : ¬ still 60 := by unfold still; decide
theorem nStill33 : ¬ still 44 := by unfold still; decide
theorem nStill22 : ¬ still 25 := by unfold still; decide
end Go.Proofs.Qxb6500606a
