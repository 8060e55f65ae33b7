/-
  A RANGE OVER A FUNCTION whose body may go on, break, return, OR PANIC: one law, at the wide fence. The iterator's contract: 'Walks'.
-/
import Derived.Test.Qxb6500606aShowS
import Derived.RangeFuncNested
import Derived.RangeFuncBound
import Derived.RangeFuncCalls
import Derived.RangeFuncLeaves
import Derived.Shelf.Abstract
import Derived.Shelf.RegionOpen
import Derived.OwnWalkIn
import Derived.TacticsInMore
import Derived.LoopNIn
import Derived.LoopIn
namespace Go.Proofs.Qxb6500606a
open Go.ChangeShapes Go.WideShapes Go.ChangeAt Go.RowKit
set_option linter.unusedVariables false

/-- THE ITERATOR's CONTRACT: the function gf, with what it has captured (lb), hands xs to yield, one after the other; it stops where yield says no; a panic of yield's passes through it. -/
def Walks (n : Nat) (gf : FuncId) (lb : Array Value) (xs : List Value) (W0 : World) : Prop :=
  ∀ (l : Nat) (J : Nat → World → Prop) (Jx : World → Prop) (Jp : List PanicEntry → World → Prop) (W : World), KeepsV W0 W →
    (∀ i x W1, xs[i]? = some x → J i W1 → YieldAt Fence.wide (n - 1) Try.prog l #[x] W1 fun e W' =>
      (e = .returned (.bool true) ∧ J (i + 1) W' ∧ KeepsV W1 W') ∨ (e = .returned (.bool false) ∧ Jx W') ∨ (∃ ch, e = .panicked ch ∧ Jp ch W')) →
    J 0 W →
    CallsIn Fence.wide n Try.prog gf (#[.func (.yield l) #[] #[]] ++ lb) W fun e W' =>
      (∃ v, e = .returned v ∧ (J xs.length W' ∨ Jx W')) ∨ (∃ ch, e = .panicked ch ∧ Jp ch W')

def bodyOut (I : Nat → World → Prop) (Ix : Code → World → Prop) (j : Nat) (W : World) : Exit → Act → World → Prop
  | .normal, _, W' => KeepsOthers W W' ∧ KeepsV W W' ∧ I j W'
  | .ret, _, W' => KeepsOthers W W' ∧ Ix .ret W'
  | .exit id, _, W' => KeepsOthers W W' ∧ Ix (.exit id) W'
  | .goto t, _, W' => KeepsOthers W W' ∧ Ix (.goto t) W'
  | .panic _, _, _ => False
  | .outgrown, _, _ => False

/-- In a round's frame the body runs into a panic, which leaves the round. -/
def PanicsIn (l : Nat) (body : Code) (a : Act) (W : World) (chain : List PanicEntry) (R : World → Prop) : Prop :=
  ∀ (b c : Frame) (cs : List Frame), b.roundOf = some l → ∃ W', R W' ∧ Steps Try.prog (lone (b.atR a [.code body]) (c :: cs) W) (lone (c.raise chain) cs W')

theorem roundIn_of_panic {n l : Nat} {f : FuncId} {tmps : Array Value} {assign body : Code} {w : World} {R : Ending → World → Prop} {chain : List PanicEntry} {a₁ : Act} {w₂ : World} {S : World → Prop}
    (h : ∀ K : Act → World → Prop, K a₁ w → assign.wpIn (Fence.wide.inRound l) n Try.prog (Exit.then K (fun _ _ _ => False)) { tmps := tmps, defers := [] } w)
    (hbr : (Instr.beginRound l).run Try.prog w = .ok () w₂) (hp : PanicsIn l body a₁ w₂ chain S) (hR : ∀ W', S W' → R (.panicked chain) W') :
    RoundIn Fence.wide n Try.prog l f tmps assign body w R := by
  refine ⟨trivial, fun c cs _ => ?_⟩
  let b : Frame := { (default : Frame) with fn := f, kind := .normal, roundOf := some l }
  have hb0 : Frame.round l f tmps assign body .normal = b.atR { tmps := tmps, defers := [] } [.code assign, .beginRound, .code body] := by
    simp [Frame.round, Frame.atR, b]
  obtain ⟨e, a', w₁, hq, harr⟩ := h (fun a' w' => a' = a₁ ∧ w' = w) ⟨rfl, rfl⟩ b [.beginRound, .code body] (c :: cs) rfl trivial (room_wide _)
  rw [← hb0] at harr
  cases e with
  | normal =>
    obtain ⟨rfl, rfl⟩ := hq
    obtain ⟨W', hS, hst⟩ := hp b c cs rfl
    refine ⟨.panicked chain, W', hR W' hS, ?_⟩
    have s0 : Steps Try.prog (lone (Frame.round l f tmps assign body .normal) (c :: cs) w₁) (lone (b.atR a' [.beginRound, .code body]) (c :: cs) w₁) := StepsIn.steps harr
    have s1 : Steps Try.prog (lone (b.atR a' [.beginRound, .code body]) (c :: cs) w₁) (lone (b.atR a' [.code body]) (c :: cs) w₂) := .one (stepR_beginRound rfl hbr)
    exact stepsIn_wide.2 ((s0.trans s1).trans hst)
  | exit id => exact hq.elim
  | goto t => exact hq.elim
  | ret => exact hq.elim
  | panic chain => exact hq.elim
  | outgrown => exact hq.elim

theorem range_law {n : Nat} {g : Operand} {p : Tmp} {assign body : Code} {Q : Exit → Act → World → Prop} {a : Act} {w : World} {gf : FuncId} {lb : Array Value}
    (hg : a.eval g = .func (.func gf) #[] lb) (eg : ∀ args w, (callFunc gf args).run Try.prog w = .ok (.enter gf args) w)
    {xs : List Value} (hseq : Walks (n - 1) gf lb xs w)
    (I : Nat → World → Prop) (Ix : Code → World → Prop) (Ip : List PanicEntry → World → Prop)
    (hI : OwnFrom w.heap.size I) (hIx : OwnFrom w.heap.size Ix) (hIp : OwnFrom w.heap.size Ip) (h0 : I 0 w)
    (hround : ∀ (l i : Nat) (x : Value) (W W2 : World), xs[i]? = some x → I i W2 → ∃ a₁ : Act,
      (∀ K : Act → World → Prop, K a₁ W → assign.wpIn (Fence.wide.inRound l) (n - 1 - 1) Try.prog (Exit.then K (fun _ _ _ => False)) { tmps := a.tmps.setIfInBounds p x, defers := [] } W) ∧
      (body.wpIn (Fence.wide.inRound l) (n - 1 - 1) Try.prog (bodyOut I Ix (i + 1) W2) a₁ W2 ∨ ∃ chain, PanicsIn l body a₁ W2 chain (fun W' => KeepsOthers W2 W' ∧ Ip chain W')))
    (hdone : ∀ (D : Nat) (W : World), w.heap.size ≤ D → I xs.length W → W.heap[D]? = some (.deferred (some [])) → Q .normal { a with defers := { target := .collected D, args := #[] } :: a.defers } W)
    (hstop : ∀ (D : Nat) (c : Code) (W : World), w.heap.size ≤ D → Ix c W → W.heap[D]? = some (.deferred (some [])) → c.wpIn Fence.wide n Try.prog Q { a with defers := { target := .collected D, args := #[] } :: a.defers } W)
    (hpan : ∀ (D : Nat) (ch : List PanicEntry) (W : World), w.heap.size ≤ D → Ip ch W → W.heap[D]? = some (.deferred (some [])) → Q (.panic ch) { a with defers := { target := .collected D, args := #[] } :: a.defers } W) :
    (Code.rangeFunc g #[p] assign body).wpIn Fence.wide n Try.prog Q a w := by
  refine wpIn_rangeFunc ?_
  intro fn _
  obtain ⟨rec, hrec⟩ : ∃ rec : LoopState → Option Code → Loop, rec = fun st pe => { state := st, pending := pe, fn, tmps := a.tmps, params := #[p], assign, body, defers := w.heap.size } := ⟨_, rfl⟩
  obtain ⟨W1, hW1⟩ : ∃ W1, (w.alloc (.deferred (some []))).alloc (.loop (rec .ready none)) = W1 := ⟨_, rfl⟩
  have hL1 : W1.heap[w.heap.size + 1]? = some (.loop (rec .ready none)) := by
    rw [← hW1]; have := World.alloc_heap_new (w.alloc (.deferred (some []))) (.loop (rec .ready none)); rwa [World.size_alloc] at this
  have hK1 : W1.heap[w.heap.size]? = some (.deferred (some [])) := by
    rw [← hW1]; exact (Below.heap_alloc _ _ _ (by simp)).trans (World.alloc_heap_new w _)
  have hI1 : I 0 W1 := by rw [← hW1]; exact hI.alloc _ (hI.alloc _ h0)
  have hkv1 : KeepsV w W1 := by
    rw [← hW1]; exact KeepsV.of_below (((Below.refl _ w).alloc (Nat.le_refl _) _).alloc (by simp) _)
  have hkp : ∀ (W : World) (o o' : Obj), W.heap[w.heap.size + 1]? = some o → o.isCells = false → KeepsV W (W.putObj (w.heap.size + 1) o') := by
    intro W o o' ho hc b c t _ e
    by_cases hb : b = w.heap.size + 1
    · subst hb; rw [ho] at e; cases e; cases hc
    · exact (World.putObj_heap_other hb).trans e
  refine ⟨w.heap.size + 1, [{ target := .collected w.heap.size, args := #[] }], W1, { target := .fn (.func gf) lb, args := #[.func (.yield (w.heap.size + 1)) #[] #[]] }, W1, gf,
    #[.func (.yield (w.heap.size + 1)) #[] #[]] ++ lb, W1, ?_, ?_, fun _ _ => trivial, ?_, fun h => by simp [Fence.wide] at h, ?_⟩
  · rw [← hW1, hrec]; exact run_enterLoop_outer _ _ _ _ _
  · simp only [resolve, hg]
    simp [go_sem]
  · simp [invoke, go_sem, eg]
  · refine (hseq (w.heap.size + 1)
      (fun i W => I i W ∧ W.heap[w.heap.size + 1]? = some (.loop (rec .ready none)) ∧ W.heap[w.heap.size]? = some (.deferred (some [])))
      (fun W => ∃ c, Ix c W ∧ W.heap[w.heap.size + 1]? = some (.loop (rec .done (some c))) ∧ W.heap[w.heap.size]? = some (.deferred (some [])))
      (fun ch W => Ip ch W ∧ W.heap[w.heap.size]? = some (.deferred (some [])))
      W1 hkv1 ?_ ⟨hI1, hL1, hK1⟩).mono ?_
    · rintro i x W hxi ⟨hi, hl, hk⟩
      have hlt : w.heap.size + 1 < W.heap.size := (Array.getElem?_eq_some_iff.1 hl).1
      have hy : (Instr.yield (w.heap.size + 1) #[x]).run Try.prog W = .ok (.round (w.heap.size + 1) fn (a.tmps.setIfInBounds p x) assign body) W := by
        rw [run_yield (P := Try.prog) (args := #[x]) hl (by rw [hrec]; rfl), hrec]; simp
      have hbr := run_beginRound (P := Try.prog) hl (by rw [hrec])
      obtain ⟨W2, hW2⟩ : ∃ W2, W.putObj (w.heap.size + 1) (.loop { rec .ready none with state := .busy }) = W2 := ⟨_, rfl⟩
      rw [hW2] at hbr
      have hl2 : W2.heap[w.heap.size + 1]? = some (.loop { rec .ready none with state := .busy }) := by rw [← hW2]; exact World.putObj_heap_same hlt
      have hk2 : W2.heap[w.heap.size]? = some (.deferred (some [])) := by rw [← hW2]; exact (World.putObj_heap_other (by omega)).trans hk
      have hkv2 : KeepsV W W2 := by rw [← hW2]; exact hkp W _ _ hl rfl
      have hi2 : I i W2 := by rw [← hW2]; exact hI.putObj _ hi (by omega) hl rfl
      obtain ⟨a₁, hassign, hb | ⟨chain, hb⟩⟩ := hround (w.heap.size + 1) i x W W2 hxi hi2
      · refine ⟨fn, _, assign, body, hy, roundIn_of_wpIn trivial (hassign _ ⟨W2, hbr, ?_⟩)⟩
        refine wpIn_mono hb ?_
        have fin : ∀ (jump : Option Code) (W3 : World), KeepsOthers W2 W3 →
            (Instr.endRound (w.heap.size + 1) jump).run Try.prog W3 = .ok (.bool jump.isNone) (W3.putObj (w.heap.size + 1) (.loop (rec (if jump.isNone then .ready else .done) jump))) ∧
            W3.heap[w.heap.size + 1]? = some (.loop { rec .ready none with state := .busy }) ∧
            (W3.putObj (w.heap.size + 1) (.loop (rec (if jump.isNone then .ready else .done) jump))).heap[w.heap.size + 1]? = some (.loop (rec (if jump.isNone then .ready else .done) jump)) ∧
            (W3.putObj (w.heap.size + 1) (.loop (rec (if jump.isNone then .ready else .done) jump))).heap[w.heap.size]? = some (.deferred (some [])) := fun jump W3 hk3 => by
          have hl3 := hk3.same _ _ hl2 rfl
          have := run_endRound (P := Try.prog) jump hl3
          rw [hrec] at this ⊢
          exact ⟨this, by rw [hrec] at hl3; exact hl3, World.putObj_heap_same (Array.getElem?_eq_some_iff.1 hl3).1, (World.putObj_heap_other (by omega)).trans (hk3.same _ _ hk2 rfl)⟩
        rintro e a3 W3 hp
        cases e with
        | normal =>
          obtain ⟨hk3, hkv3, hi3⟩ := hp
          obtain ⟨hr, hl3, hl4, hk4⟩ := fin none W3 hk3
          exact ⟨_, _, hr, .inl ⟨rfl, ⟨hI.putObj _ hi3 (by omega) hl3 rfl, hl4, hk4⟩, (hkv2.trans hkv3).trans (hkp W3 _ _ hl3 rfl)⟩⟩
        | ret =>
          obtain ⟨hk3, hi3⟩ := hp
          obtain ⟨hr, hl3, hl4, hk4⟩ := fin (some .ret) W3 hk3
          exact ⟨_, _, hr, .inr (.inl ⟨rfl, .ret, hIx.putObj _ hi3 (by omega) hl3 rfl, hl4, hk4⟩)⟩
        | exit id =>
          obtain ⟨hk3, hi3⟩ := hp
          obtain ⟨hr, hl3, hl4, hk4⟩ := fin (some (.exit id)) W3 hk3
          exact ⟨_, _, hr, .inr (.inl ⟨rfl, .exit id, hIx.putObj _ hi3 (by omega) hl3 rfl, hl4, hk4⟩)⟩
        | goto t =>
          obtain ⟨hk3, hi3⟩ := hp
          obtain ⟨hr, hl3, hl4, hk4⟩ := fin (some (.goto t)) W3 hk3
          exact ⟨_, _, hr, .inr (.inl ⟨rfl, .goto t, hIx.putObj _ hi3 (by omega) hl3 rfl, hl4, hk4⟩)⟩
        | panic ch => exact hp.elim
        | outgrown => exact hp.elim
      · refine ⟨fn, _, assign, body, hy, roundIn_of_panic hassign hbr hb ?_⟩
        rintro W' ⟨hk3, hp3⟩
        exact .inr (.inr ⟨chain, rfl, hp3, hk3.same _ _ hk2 rfl⟩)
    · rintro e W2 (⟨v, rfl, (⟨hi, hl, hk⟩ | ⟨c, hi, hl, hk⟩)⟩ | ⟨ch, rfl, hi, hk⟩)
      · exact ⟨none, _, by have := run_endLoop (P := Try.prog) hl (by rw [hrec]; simp); rw [hrec] at this; exact this, hdone _ _ (Nat.le_refl _) (hI.putObj _ hi (by omega) hl rfl) ((World.putObj_heap_other (by omega)).trans hk)⟩
      · exact ⟨some c, _, by have := run_endLoop (P := Try.prog) hl (by rw [hrec]; simp); rw [hrec] at this; exact this, hstop _ c _ (Nat.le_refl _) (hIx.putObj _ hi (by omega) hl rfl) ((World.putObj_heap_other (by omega)).trans hk)⟩
      · exact hpan _ ch _ (Nat.le_refl _) hi hk
end Go.Proofs.Qxb6500606a
