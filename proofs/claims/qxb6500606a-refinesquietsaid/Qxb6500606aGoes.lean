/-
  Goes, Says: a script.
-/
import Derived.Test.Qxb6500606aPlay
import Derived.Deep.MidRow
namespace Go.Proofs.Qxb6500606a
open Go.ChangeShapes Go.WideShapes Go.ChangeAt Go.RowKit Go.Shelf
set_option linter.unusedVariables false

theorem info27 (o : Nat) : (Try.prog.info? 30).map (·.size) = some 6 := by kernel_rfl
structure Step where
  k : Int
  a : Int := 0
  b : Int := 0
  s : List UInt8 := []
def Step.cells (o : Step) : List Value := [.int .i64 o.k, .int .i64 o.a, .int .i64 o.b, .int .i64 0, .string (str o.s), .string (str [])]
def flat : List Step → List Value
  | [] => []
  | o :: r => o.cells ++ flat r
/-- The steps, one after the other: the last answer and the stack behind them. -/
def goF : List Step → Ans × St → Ans × St
  | [], p => p
  | o :: r, p => goF r (doF o.k o.a o.b o.s p.2)
def saysF (ops : List Step) (vs : St) : Ans × St := (⟨(goF ops (⟨0, 0, []⟩, vs)).1.e, (goF ops (⟨0, 0, []⟩, vs)).1.n, showF (goF ops (⟨0, 0, []⟩, vs)).2⟩, (goF ops (⟨0, 0, []⟩, vs)).2)
theorem flat_at : ∀ (ops : List Step) (i : Nat) (o : Step) (j : Nat) (v : Value), ops[i]? = some o → o.cells[j]? = some v → (flat ops)[6 * i + j]? = some v
  | [], i, o, j, v, h, _ => by simp at h
  | o :: r, 0, o', j, v, h, hv => by
    simp at h; subst h
    have hj : j < o.cells.length := (List.getElem?_eq_some_iff.1 hv).1
    rw [flat, Nat.mul_zero, Nat.zero_add, List.getElem?_append_left hj]; exact hv
  | o :: r, i + 1, o', j, v, h, hv => by
    have := flat_at r i o' j v (by simpa using h) hv
    have hl : o.cells.length = 6 := rfl
    rw [flat, List.getElem?_append_right (by omega), hl]
    have e : 6 * (i + 1) + j - 6 = 6 * i + j := by omega
    rw [e]; exact this
theorem goF_append (l : List Step) (o : Step) : ∀ p, goF (l ++ [o]) p = doF o.k o.a o.b o.s (goF l p).2 := by
  induction l with
  | nil => intro p; rfl
  | cons x r ih => intro p; exact ih _

theorem go_set {W : World} {b : Nat} (e n : Int) (t u : List UInt8) (h2 : W.heap[b + 1]? = some (.cells (ansC e n t) 27)) (h1 : W.heap[b]? = some (.cells zero4 27)) :
    Hid ((W.setCell ⟨b + 1, 3, none⟩ (.string (str u))).heap[b + 1]? = some (.cells (ansC e n u) 27 (0, 0))) ∧ Hid ((W.setCell ⟨b + 1, 3, none⟩ (.string (str u))).heap[b]? = some (.cells zero4 27 (0, 0))) ∧
    W.cell? ⟨b + 1, 3, none⟩ = some (.string (str t)) ∧ W.frozen? ⟨b + 1, 3, none⟩ = false :=
  ⟨heap_setCell_same W (b + 1) 3 _ _ _ h2, (Below.heap_setCell W _ _ b (by show b ≠ b + 1; omega)).trans h1, by simp [World.cell?, h2, ansC], frozen_of_row W (b + 1) 3 _ _ h2⟩
section
variable {w : World} {s : Nat} {g : Option Nat} {vs : List V} {B : Nat}
set_option maxHeartbeats 1000000 in
theorem goes_calls (h : Stk w s g false vs) (hok : Okay vs) (ops : List Step) (hB : w.heap[B]? = some (.cells (flat ops).toArray 30)) (hl : ops.length ≤ 100) (hI : ∀ o ∈ ops, I64 o.b ∧ (o.k = 12 → ExtraAt o.a)) :
    Calls Try.prog 23 #[.pointer (some ⟨s, 0, none⟩), .slice (some ⟨B, 0, none⟩) ops.length ops.length] w fun e w' => e = .returned (saysF ops vs).1.v ∧ Moved w s g false (saysF ops vs).2 w' := by
  have hBB : Hid (Below w.heap.size w ((w.alloc (.cells #[.int .i64 0, .int .i64 0, .int .i64 0, .string { data := #[] }] 27)).alloc (.cells #[.int .i64 0, .int .i64 0, .int .i64 0, .string { data := #[] }] 27))) := below_alloc (below_alloc (Below.refl _ _))
  go_enter Try.func23, Try.ntmps23
  go_wp2_with fail
  go_loopw [6] (fun i W => ∃ j : Nat, i = .int .i64 j ∧ j ≤ ops.length ∧ Moved w s g false (goF (ops.take j) (⟨0, 0, []⟩, vs)).2 W ∧ Okay (goF (ops.take j) (⟨0, 0, []⟩, vs)).2 ∧ W.heap[w.heap.size]? = some (.cells zero4 27) ∧ W.heap[w.heap.size + 1]? = some (.cells (ansC (goF (ops.take j) (⟨0, 0, []⟩, vs)).1.e (goF (ops.take j) (⟨0, 0, []⟩, vs)).1.n (goF (ops.take j) (⟨0, 0, []⟩, vs)).1.s) 27) ∧ W.heap[B]? = some (.cells (flat ops).toArray 30))
    (fun i W => ops.length - (intOf i).toNat)
  case atStart =>
    refine ⟨0, rfl, Nat.zero_le _, ?_, hok, ?_, ?_, ?_⟩
    · exact Moved.below h hBB.out
    · exact heap_alloc2_old w _ _
    · exact heap_alloc2_new w _ _
    · exact (hBB.out.block B (lt_of_heap hB)).trans hB
  case round =>
    obtain ⟨j, rfl, hj, hm, hok', e0, e1, e2⟩ := hrel
    by_cases hjl : j < ops.length
    · obtain ⟨o, ho⟩ : ∃ o, ops[j]? = some o := ⟨_, List.getElem?_eq_getElem hjl⟩
      obtain ⟨hIb, hIx⟩ := hI o (List.mem_of_getElem? ho)
      have hR : wr.rangeAt B (j * 6) o.cells := fun i v hv => by
        have := flat_at ops j o i v ho hv
        simp only [World.cell?, e2]
        rw [Nat.mul_comm j 6]
        simpa using this
      have hlt : decide ((j : Int) < ops.length) = true := decide_eq_true (by omega)
      have hR := hide hR
      obtain ⟨g', hst, hg', ho'⟩ := hm
      have hgo : goF (ops.take (j + 1)) (⟨0, 0, []⟩, vs) = doF o.k o.a o.b o.s (goF (ops.take j) (⟨0, 0, []⟩, vs)).2 := by
        rw [List.take_add_one, ho]; exact goF_append _ _ _
      have hdo := do_calls hst hok' o.k o.a o.b 0 o.s [] hIb hIx
      rw [← hgo] at hdo
      have HO : Hid (Okay (goF (ops.take (j + 1)) (⟨0, 0, []⟩, vs)).2) := by rw [hgo]; exact okay_do hst hok' _ _ _ _
      have hdo := hide hdo
      have HE := hide (And.intro e0 (And.intro e1 e2))
      have HST := hide hst
      have HGO := hide (And.intro hg' ho')
      clear e0 e1 e2 h hB hgo hst hg' ho' ho hI
      generalize hq : goF (ops.take (j + 1)) (⟨0, 0, []⟩, vs) = q at *
      have HQ := hide hq
      clear hq
      go_wp2_with (first | (refine wpList_load_mid rfl 30 _ rfl B (j * 6) rfl o.cells _ hR.out Try.underlying30 rfl (info27 0) ?_) | (go_at_call 29; refine hdo.out.mono ?_; rintro e W4 ⟨rfl, hm4⟩; have F0 := hide (hm4.keepsBlock HST.out HE.out.1 (by decide) (by decide)); have F1 := hide (hm4.keepsBlock HST.out HE.out.2.1 (by decide) (by decide)); have F2 := hide (hm4.keepsBlock HST.out HE.out.2.2 (by decide) (by decide))) | (refine wpList_store_row rfl 27 _ _ rfl (w.heap.size + 1) _ rfl rfl 27 _ F1.out (info24a _ _ _) rfl (ansC_all _ _ _) ?_))
      go_roundw
      case rel =>
        have hm5 := Moved.then HGO.out.1 HGO.out.2 hm4
        refine ⟨j + 1, by go_num, by omega, ?_⟩
        rw [HQ.out]
        exact ⟨hm5.setRow (by omega) F1.out (by decide) (by decide) nStill24, HO.out, (setRow_other W4 (w.heap.size + 1) w.heap.size _ (by omega)).trans F0.out, setRow_heap _ _ _ _ _ _ F1.out, (setRow_other W4 (w.heap.size + 1) B _ (by rintro rfl; have := F1.out; rw [F2.out] at this; simp at this)).trans F2.out⟩
      case measure => simp [intOf]; omega
    · have hjl' : j = ops.length := by omega
      subst hjl'
      rw [List.take_length] at hm hok' e1
      have hSF : saysF ops vs = (⟨(goF ops (⟨0, 0, []⟩, vs)).1.e, (goF ops (⟨0, 0, []⟩, vs)).1.n, showF (goF ops (⟨0, 0, []⟩, vs)).2⟩, (goF ops (⟨0, 0, []⟩, vs)).2) := rfl
      generalize goF ops (⟨0, 0, []⟩, vs) = q at *
      have HSF := hide hSF
      obtain ⟨g', hst, hg', ho'⟩ := hm
      have hsh := hide (stackShow_calls hst hok')
      have hlt : decide ((ops.length : Int) < ops.length) = false := decide_eq_false (by omega)
      have HE := hide (And.intro e0 e1)
      have HST := hide (And.intro hst (And.intro hg' ho'))
      clear e0 e1 e2 h hB hst hg' ho' hI hSF
      go_wp2_with (first | (go_at_call 25; refine hsh.out.mono ?_; rintro e W4 ⟨rfl, hb4⟩; have F1 := hide ((hb4.block _ (lt_of_heap HE.out.2)).trans HE.out.2); obtain ⟨D2, D1, q3, z3⟩ := go_set (b := w.heap.size) q.1.e q.1.n q.1.s (showF q.2) F1.out ((hb4.block _ (lt_of_heap HE.out.1)).trans HE.out.1)) | (refine wpList_load_row rfl 27 _ rfl (w.heap.size + 1) rfl 27 _ (0, 0) _ D2.out Try.underlying27 rfl (info24a _ _ _) ?_) | (refine wpList_store_row rfl 27 _ _ rfl w.heap.size _ rfl rfl 27 _ D1.out (info24a _ _ _) rfl (ansC_all _ _ _) ?_))
      refine bodyPost_ret (results_cell_row rfl _ _ w.heap.size 27 (ansC q.1.e q.1.n (showF q.2)) (0, 0) _ rfl (setRow_heap _ _ _ _ _ _ D1.out) Try.underlying27 rfl (info24a _ _ _)) rfl ?_
      rw [HSF.out]
      have hm5 : Moved w s g false q.2 W4 := Moved.then HST.out.2.1 HST.out.2.2 (Moved.below HST.out.1 hb4)
      exact ⟨rfl, (hm5.setAt (by omega) F1.out (by decide) (by decide) nStill24).setRow (by omega) D1.out (by decide) (by decide) nStill24⟩

/-- Says: on a fresh stack. -/
theorem says_calls (ops : List Step) (hB : w.heap[B]? = some (.cells (flat ops).toArray 30)) (hl : ops.length ≤ 100) (hI : ∀ o ∈ ops, I64 o.b ∧ (o.k = 12 → ExtraAt o.a)) :
    Calls Try.prog 18 #[.slice (some ⟨B, 0, none⟩) ops.length ops.length] w fun e w' => e = .returned (saysF ops []).1.v ∧ Below w.heap.size w w' := by
  have HB1 : Hid (Below w.heap.size w (w.alloc (.cells #[.int .i64 0, .int .i64 0, .int .i64 0, .string { data := #[] }] 27))) := below_alloc (Below.refl _ _)
  have HN := hide (new_calls (w.alloc (.cells #[.int .i64 0, .int .i64 0, .int .i64 0, .string { data := #[] }] 27)))
  have hB2 : Below w.heap.size w ((w.alloc (.cells #[.int .i64 0, .int .i64 0, .int .i64 0, .string { data := #[] }] 27)).alloc (.cells #[.slice none 0 0, .bool false] 46)) := below_alloc HB1.out
  have hst := new_is (w.alloc (.cells #[.int .i64 0, .int .i64 0, .int .i64 0, .string { data := #[] }] 27))
  have hgo := goes_calls (B := B) ⟨_, _, _, hst⟩ ⟨by simp, by simp⟩ ops ((hB2.block B (lt_of_heap hB)).trans hB) hl hI
  have hE : ((w.alloc (.cells #[.int .i64 0, .int .i64 0, .int .i64 0, .string { data := #[] }] 27)).alloc (.cells #[.slice none 0 0, .bool false] 46)).heap[w.heap.size]? = some (.cells zero4 27) := heap_alloc2_old w _ _
  have HG := hide hgo
  have HE := hide hE
  have HST : Hid (Stk ((w.alloc (.cells #[.int .i64 0, .int .i64 0, .int .i64 0, .string { data := #[] }] 27)).alloc (.cells #[.slice none 0 0, .bool false] 46)) (w.alloc (.cells #[.int .i64 0, .int .i64 0, .int .i64 0, .string { data := #[] }] 27)).heap.size none false []) := ⟨_, _, _, hst⟩
  simp only [World.size_alloc] at HN HG HST
  clear hgo hE hst hB hI
  generalize saysF ops [] = q at *
  go_enter Try.func18, Try.ntmps18
  go_wp2_with (first | (go_at_call 20; refine HN.out.mono ?_; rintro e W4 ⟨rfl, hw⟩; subst hw) | (go_at_call 23; refine HG.out.mono ?_; rintro e W4 ⟨rfl, hm⟩; have F0 := hide (hm.keepsBlock HST.out HE.out (by decide) (by decide))) | (refine wpList_store_row rfl 27 _ _ rfl w.heap.size _ rfl rfl 27 _ F0.out (info24a _ _ _) rfl (ansC_all _ _ _) ?_))
  refine bodyPost_ret (results_cell_row rfl _ _ w.heap.size 27 (ansC q.1.e q.1.n q.1.s) (0, 0) _ rfl (setRow_heap _ _ _ _ _ _ F0.out) Try.underlying27 rfl (info24a _ _ _)) rfl ?_
  refine ⟨rfl, below_setRow ?_ (Nat.le_refl _) _⟩
  obtain ⟨g', _, _, ho⟩ := hm
  refine Only.below_at hB2 ho ?_
  rintro b (rfl | hb)
  · omega
  · cases hb
end
end Go.Proofs.Qxb6500606a
