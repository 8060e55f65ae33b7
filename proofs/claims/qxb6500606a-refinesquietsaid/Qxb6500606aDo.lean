/-
  Do: one step of a script.
-/
import Derived.Test.Qxb6500606aSpread
import Derived.Test.Qxb6500606aExtra
import Derived.Test.Qxb6500606aFind
namespace Go.Proofs.Qxb6500606a
open Go.ChangeShapes Go.WideShapes Go.ChangeAt Go.RowKit Go.Shelf
set_option linter.unusedVariables false

def opV (k a b c : Int) (s t : List UInt8) : Value := .agg #[.int .i64 k, .int .i64 a, .int .i64 b, .int .i64 c, .string (str s), .string (str t)]
def ansC (e n : Int) (s : List UInt8) : Array Value := #[.int .i64 e, .int .i64 n, .int .i64 0, .string (str s)]
def ansV (e n : Int) (s : List UInt8) : Value := .agg (ansC e n s)

theorem row_cells {W : World} {b : Nat} {c : Array Value} {t : TypeId} (h : W.heap[b]? = some (.cells c t)) : (∀ j, W.cell? ⟨b, j, none⟩ = c[j]?) ∧ ∀ j, W.frozen? ⟨b, j, none⟩ = false :=
  ⟨fun j => by simp [World.cell?, h], fun j => frozen_of_row W b j _ _ h⟩
theorem ansC_all (e n : Int) (s : List UInt8) : (ansC e n s).all (·.oneCell') = true := by simp [ansC, Value.oneCell']
theorem info24a (e n : Int) (s : List UInt8) : (Try.prog.info? 27).map (·.size) = some (ansC e n s).size := by show _ = some 4; kernel_rfl
theorem info24 : (Try.prog.info? 27).map (·.size) = some 4 := by kernel_rfl
def zero4 : Array Value := #[.int .i64 0, .int .i64 0, .int .i64 0, .string { data := #[] }]
theorem do_start (w : World) (c : Array Value) (t : TypeId) : ∃ W3, Hid (W3 = (((w.alloc (.cells c t)).alloc (.cells #[.int .i64 0, .int .i64 0, .int .i64 0, .string { data := #[] }] 27)).alloc (.cells #[.int .i64 0, .int .i64 0, .int .i64 0, .string { data := #[] }] 27))) ∧
    Below w.heap.size w W3 ∧ Hid (W3.heap[w.heap.size + 1]? = some (.cells zero4 27)) ∧ Hid (W3.heap[w.heap.size + 1 + 1]? = some (.cells zero4 27)) := by
  refine ⟨_, rfl, below_alloc (below_alloc (below_alloc (Below.refl _ _))), ?_, ?_⟩
  · show _ = _
    rw [heap_alloc_old _ _ (by simp)]
    exact heap_alloc2_new w _ _
  · show _ = _
    have := heap_alloc_new ((w.alloc (.cells c t)).alloc (.cells zero4 27)) (.cells zero4 27)
    simp only [World.size_alloc] at this
    exact this
section
variable {w : World} {s : Nat} {g : Option Nat} {vs : List V}
theorem do_kept {W3 : World} (h : Stk w s g false vs) (hB : Below w.heap.size w W3) (h1 : W3.heap[w.heap.size + 1]? = some (.cells zero4 27)) (h2 : W3.heap[w.heap.size + 1 + 1]? = some (.cells zero4 27)) (W4 : World) (vs' : St) (hm : Moved W3 s g false vs' W4) :
    Moved w s g false vs' W4 ∧ Hid (W4.heap[w.heap.size + 1]? = some (.cells zero4 27)) ∧ Hid (W4.heap[w.heap.size + 1 + 1]? = some (.cells zero4 27)) :=
  ⟨Moved.after hB hm, hm.keepsBlock (h.below hB) h1 (by decide) (by decide), hm.keepsBlock (h.below hB) h2 (by decide) (by decide)⟩
theorem zero_cells {W : World} {b : Nat} (h : W.heap[b]? = some (.cells zero4 27)) : W.cell? ⟨b, 0, none⟩ = some (.int .i64 0) ∧ W.cell? ⟨b, 1, none⟩ = some (.int .i64 0) ∧ W.cell? ⟨b, 3, none⟩ = some (.string { data := #[] }) ∧ W.frozen? ⟨b, 0, none⟩ = false ∧ W.frozen? ⟨b, 1, none⟩ = false ∧ W.frozen? ⟨b, 3, none⟩ = false :=
  ⟨by simp [World.cell?, h, zero4], by simp [World.cell?, h, zero4], by simp [World.cell?, h, zero4], frozen_of_row W b 0 _ _ h, frozen_of_row W b 1 _ _ h, frozen_of_row W b 3 _ _ h⟩
/-- A word keeps its stack through stores into new blocks. -/
theorem Moved.setAt {w W : World} {s : Nat} {g : Option Nat} {busy : Bool} {vs : St} {b i : Nat} {c : Array Value} {v : Value} {t : TypeId} (hm : Moved w s g busy vs W) (hb : w.heap.size ≤ b) (hc : W.heap[b]? = some (.cells c t)) (h1 : t ≠ 46) (h2 : t ≠ 60) (h3 : ¬ still t) : Moved w s g busy vs (W.setCell ⟨b, i, none⟩ v) := by
  obtain ⟨g', ⟨a, cap, xs, h⟩, hg, ho⟩ := hm
  refine ⟨g', ⟨a, cap, xs, h.only (fun b' hb' => Below.heap_setCell W _ v b' fun e => ?_) ?_⟩, hg, ho.setCell (.inr hb) v⟩
  · subst e
    obtain ⟨c', t', h4, h5⟩ := own_tag h hb'
    rw [hc] at h4
    simp at h4
    obtain ⟨rfl, rfl⟩ := h4
    exact h5.elim h1 h2
  · intro b' c' t' ht' e
    by_cases hb' : b' = b
    · subst hb'; rw [hc] at e; cases e; exact absurd ht' h3
    · exact (Below.heap_setCell W _ v b' hb').trans e
theorem Moved.setRow {w W : World} {s : Nat} {g : Option Nat} {busy : Bool} {vs : St} {b : Nat} {c : Array Value} {cs : Array Value} {t : TypeId} (hm : Moved w s g busy vs W) (hb : w.heap.size ≤ b) (hc : W.heap[b]? = some (.cells c t)) (h1 : t ≠ 46) (h2 : t ≠ 60) (h3 : ¬ still t) : Moved w s g busy vs (W.setRow b cs) := by
  obtain ⟨g', ⟨a, cap, xs, h⟩, hg, ho⟩ := hm
  refine ⟨g', ⟨a, cap, xs, h.only (fun b' hb' => setRow_other W b b' cs fun e => ?_) ?_⟩, hg, ⟨ho.os, ho.tape, ho.output, by rw [size_setRow]; exact ho.size, fun k hk hn => (setRow_other W b k cs (by omega)).trans (ho.block k hk hn)⟩⟩
  · subst e
    obtain ⟨c', t', h4, h5⟩ := own_tag h hb'
    rw [hc] at h4
    simp at h4
    obtain ⟨rfl, rfl⟩ := h4
    exact h5.elim h1 h2
  · intro b' c' t' ht' e
    by_cases hb' : b' = b
    · subst hb'; rw [hc] at e; cases e; exact absurd ht' h3
    · exact (setRow_other W b b' cs hb').trans e
/-- What the answer's block holds behind a store into it, and what the result's block then still holds. -/
theorem do_set {W : World} {b : Nat} (i : Nat) (v : Value) {c : Array Value} (e n : Int) (s : List UInt8) (h2 : W.heap[b + 1 + 1]? = some (.cells c 27)) (h1 : W.heap[b + 1]? = some (.cells zero4 27)) (hc : c.setIfInBounds i v = ansC e n s) :
    Hid ((W.setCell ⟨b + 1 + 1, i, none⟩ v).heap[b + 1 + 1]? = some (.cells (ansC e n s) 27 (0, 0))) ∧ Hid ((W.setCell ⟨b + 1 + 1, i, none⟩ v).heap[b + 1]? = some (.cells zero4 27 (0, 0))) :=
  ⟨(heap_setCell_same W (b + 1 + 1) i _ _ v h2).trans (by rw [hc]), (Below.heap_setCell W _ v (b + 1) (by show b + 1 ≠ b + 1 + 1; omega)).trans h1⟩
theorem nStill24 : ¬ still 27 := by unfold still; decide
set_option maxHeartbeats 1000000 in
theorem do_word2 (h : Stk w s g false vs) (r : Int × St) (hw : ∀ W, Below w.heap.size w W → Calls Try.prog 38 #[.pointer (some ⟨s, 0, none⟩)] W fun e w' => e = .returned (.int .i64 r.1) ∧ Moved W s g false r.2 w') (a b c : Int) (S T : List UInt8) :
    Calls Try.prog 29 #[.pointer (some ⟨s, 0, none⟩), opV 2 a b c S T] w fun e w' => e = .returned (ansV r.1 0 []) ∧ Moved w s g false r.2 w' := by
  have HW := hide hw
  clear hw
  unfold opV
  obtain ⟨W3, HW3, hB, H1, H2⟩ := do_start w #[.int .i64 2, .int .i64 a, .int .i64 b, .int .i64 c, .string (str S), .string (str T)] 30
  have HD := hide (do_kept h hB H1.out H2.out)
  clear h
  go_enter Try.func29, Try.ntmps29
  go_wp2_with (first | (go_at_call 38; rw [← HW3.out]; refine (HW.out _ hB).mono ?_; rintro e W4 ⟨rfl, hm⟩; obtain ⟨hm4, P1, P2⟩ := HD.out W4 _ hm; obtain ⟨q0, q1, q3, z0, z1, z3⟩ := zero_cells P2.out; obtain ⟨D2, D1⟩ := do_set (b := w.heap.size) 0 (.int .i64 r.1) r.1 0 [] P2.out P1.out rfl) | (refine wpList_load_row rfl 27 _ rfl (w.heap.size + 1 + 1) rfl 27 _ (0, 0) _ D2.out Try.underlying27 rfl (info24a _ _ _) ?_) | (refine wpList_store_row rfl 27 _ _ rfl (w.heap.size + 1) _ rfl rfl 27 _ D1.out (info24a _ _ _) rfl (ansC_all _ _ _) ?_))
  refine bodyPost_ret (results_cell_row rfl _ _ (w.heap.size + 1) 27 (ansC r.1 0 []) (0, 0) _ rfl (setRow_heap _ _ _ _ _ _ D1.out) Try.underlying27 rfl (info24a _ _ _)) rfl ?_
  exact ⟨rfl, (hm4.setAt (by omega) P2.out (by decide) (by decide) nStill24).setRow (by omega) D1.out (by decide) (by decide) nStill24⟩
set_option maxHeartbeats 1000000 in
theorem do_word3 (h : Stk w s g false vs) (r : Int × St) (hw : ∀ W, Below w.heap.size w W → Calls Try.prog 39 #[.pointer (some ⟨s, 0, none⟩)] W fun e w' => e = .returned (.int .i64 r.1) ∧ Moved W s g false r.2 w') (a b c : Int) (S T : List UInt8) :
    Calls Try.prog 29 #[.pointer (some ⟨s, 0, none⟩), opV 3 a b c S T] w fun e w' => e = .returned (ansV r.1 0 []) ∧ Moved w s g false r.2 w' := by
  have HW := hide hw
  clear hw
  unfold opV
  obtain ⟨W3, HW3, hB, H1, H2⟩ := do_start w #[.int .i64 3, .int .i64 a, .int .i64 b, .int .i64 c, .string (str S), .string (str T)] 30
  have HD := hide (do_kept h hB H1.out H2.out)
  clear h
  go_enter Try.func29, Try.ntmps29
  go_wp2_with (first | (go_at_call 39; rw [← HW3.out]; refine (HW.out _ hB).mono ?_; rintro e W4 ⟨rfl, hm⟩; obtain ⟨hm4, P1, P2⟩ := HD.out W4 _ hm; obtain ⟨q0, q1, q3, z0, z1, z3⟩ := zero_cells P2.out; obtain ⟨D2, D1⟩ := do_set (b := w.heap.size) 0 (.int .i64 r.1) r.1 0 [] P2.out P1.out rfl) | (refine wpList_load_row rfl 27 _ rfl (w.heap.size + 1 + 1) rfl 27 _ (0, 0) _ D2.out Try.underlying27 rfl (info24a _ _ _) ?_) | (refine wpList_store_row rfl 27 _ _ rfl (w.heap.size + 1) _ rfl rfl 27 _ D1.out (info24a _ _ _) rfl (ansC_all _ _ _) ?_))
  refine bodyPost_ret (results_cell_row rfl _ _ (w.heap.size + 1) 27 (ansC r.1 0 []) (0, 0) _ rfl (setRow_heap _ _ _ _ _ _ D1.out) Try.underlying27 rfl (info24a _ _ _)) rfl ?_
  exact ⟨rfl, (hm4.setAt (by omega) P2.out (by decide) (by decide) nStill24).setRow (by omega) D1.out (by decide) (by decide) nStill24⟩
set_option maxHeartbeats 1000000 in
theorem do_word4 (h : Stk w s g false vs) (r : Int × St) (hw : ∀ W, Below w.heap.size w W → Calls Try.prog 40 #[.pointer (some ⟨s, 0, none⟩)] W fun e w' => e = .returned (.int .i64 r.1) ∧ Moved W s g false r.2 w') (a b c : Int) (S T : List UInt8) :
    Calls Try.prog 29 #[.pointer (some ⟨s, 0, none⟩), opV 4 a b c S T] w fun e w' => e = .returned (ansV r.1 0 []) ∧ Moved w s g false r.2 w' := by
  have HW := hide hw
  clear hw
  unfold opV
  obtain ⟨W3, HW3, hB, H1, H2⟩ := do_start w #[.int .i64 4, .int .i64 a, .int .i64 b, .int .i64 c, .string (str S), .string (str T)] 30
  have HD := hide (do_kept h hB H1.out H2.out)
  clear h
  go_enter Try.func29, Try.ntmps29
  go_wp2_with (first | (go_at_call 40; rw [← HW3.out]; refine (HW.out _ hB).mono ?_; rintro e W4 ⟨rfl, hm⟩; obtain ⟨hm4, P1, P2⟩ := HD.out W4 _ hm; obtain ⟨q0, q1, q3, z0, z1, z3⟩ := zero_cells P2.out; obtain ⟨D2, D1⟩ := do_set (b := w.heap.size) 0 (.int .i64 r.1) r.1 0 [] P2.out P1.out rfl) | (refine wpList_load_row rfl 27 _ rfl (w.heap.size + 1 + 1) rfl 27 _ (0, 0) _ D2.out Try.underlying27 rfl (info24a _ _ _) ?_) | (refine wpList_store_row rfl 27 _ _ rfl (w.heap.size + 1) _ rfl rfl 27 _ D1.out (info24a _ _ _) rfl (ansC_all _ _ _) ?_))
  refine bodyPost_ret (results_cell_row rfl _ _ (w.heap.size + 1) 27 (ansC r.1 0 []) (0, 0) _ rfl (setRow_heap _ _ _ _ _ _ D1.out) Try.underlying27 rfl (info24a _ _ _)) rfl ?_
  exact ⟨rfl, (hm4.setAt (by omega) P2.out (by decide) (by decide) nStill24).setRow (by omega) D1.out (by decide) (by decide) nStill24⟩
set_option maxHeartbeats 1000000 in
theorem do_word5 (h : Stk w s g false vs) (r : Int × St) (hw : ∀ W, Below w.heap.size w W → Calls Try.prog 41 #[.pointer (some ⟨s, 0, none⟩)] W fun e w' => e = .returned (.int .i64 r.1) ∧ Moved W s g false r.2 w') (a b c : Int) (S T : List UInt8) :
    Calls Try.prog 29 #[.pointer (some ⟨s, 0, none⟩), opV 5 a b c S T] w fun e w' => e = .returned (ansV r.1 0 []) ∧ Moved w s g false r.2 w' := by
  have HW := hide hw
  clear hw
  unfold opV
  obtain ⟨W3, HW3, hB, H1, H2⟩ := do_start w #[.int .i64 5, .int .i64 a, .int .i64 b, .int .i64 c, .string (str S), .string (str T)] 30
  have HD := hide (do_kept h hB H1.out H2.out)
  clear h
  go_enter Try.func29, Try.ntmps29
  go_wp2_with (first | (go_at_call 41; rw [← HW3.out]; refine (HW.out _ hB).mono ?_; rintro e W4 ⟨rfl, hm⟩; obtain ⟨hm4, P1, P2⟩ := HD.out W4 _ hm; obtain ⟨q0, q1, q3, z0, z1, z3⟩ := zero_cells P2.out; obtain ⟨D2, D1⟩ := do_set (b := w.heap.size) 0 (.int .i64 r.1) r.1 0 [] P2.out P1.out rfl) | (refine wpList_load_row rfl 27 _ rfl (w.heap.size + 1 + 1) rfl 27 _ (0, 0) _ D2.out Try.underlying27 rfl (info24a _ _ _) ?_) | (refine wpList_store_row rfl 27 _ _ rfl (w.heap.size + 1) _ rfl rfl 27 _ D1.out (info24a _ _ _) rfl (ansC_all _ _ _) ?_))
  refine bodyPost_ret (results_cell_row rfl _ _ (w.heap.size + 1) 27 (ansC r.1 0 []) (0, 0) _ rfl (setRow_heap _ _ _ _ _ _ D1.out) Try.underlying27 rfl (info24a _ _ _)) rfl ?_
  exact ⟨rfl, (hm4.setAt (by omega) P2.out (by decide) (by decide) nStill24).setRow (by omega) D1.out (by decide) (by decide) nStill24⟩
set_option maxHeartbeats 1000000 in
theorem do_word6 (h : Stk w s g false vs) (r : Int × St) (hw : ∀ W, Below w.heap.size w W → Calls Try.prog 42 #[.pointer (some ⟨s, 0, none⟩)] W fun e w' => e = .returned (.int .i64 r.1) ∧ Moved W s g false r.2 w') (a b c : Int) (S T : List UInt8) :
    Calls Try.prog 29 #[.pointer (some ⟨s, 0, none⟩), opV 6 a b c S T] w fun e w' => e = .returned (ansV r.1 0 []) ∧ Moved w s g false r.2 w' := by
  have HW := hide hw
  clear hw
  unfold opV
  obtain ⟨W3, HW3, hB, H1, H2⟩ := do_start w #[.int .i64 6, .int .i64 a, .int .i64 b, .int .i64 c, .string (str S), .string (str T)] 30
  have HD := hide (do_kept h hB H1.out H2.out)
  clear h
  go_enter Try.func29, Try.ntmps29
  go_wp2_with (first | (go_at_call 42; rw [← HW3.out]; refine (HW.out _ hB).mono ?_; rintro e W4 ⟨rfl, hm⟩; obtain ⟨hm4, P1, P2⟩ := HD.out W4 _ hm; obtain ⟨q0, q1, q3, z0, z1, z3⟩ := zero_cells P2.out; obtain ⟨D2, D1⟩ := do_set (b := w.heap.size) 0 (.int .i64 r.1) r.1 0 [] P2.out P1.out rfl) | (refine wpList_load_row rfl 27 _ rfl (w.heap.size + 1 + 1) rfl 27 _ (0, 0) _ D2.out Try.underlying27 rfl (info24a _ _ _) ?_) | (refine wpList_store_row rfl 27 _ _ rfl (w.heap.size + 1) _ rfl rfl 27 _ D1.out (info24a _ _ _) rfl (ansC_all _ _ _) ?_))
  refine bodyPost_ret (results_cell_row rfl _ _ (w.heap.size + 1) 27 (ansC r.1 0 []) (0, 0) _ rfl (setRow_heap _ _ _ _ _ _ D1.out) Try.underlying27 rfl (info24a _ _ _)) rfl ?_
  exact ⟨rfl, (hm4.setAt (by omega) P2.out (by decide) (by decide) nStill24).setRow (by omega) D1.out (by decide) (by decide) nStill24⟩
set_option maxHeartbeats 1000000 in
theorem do_word7 (h : Stk w s g false vs) (r : Int × St) (hw : ∀ W, Below w.heap.size w W → Calls Try.prog 43 #[.pointer (some ⟨s, 0, none⟩)] W fun e w' => e = .returned (.int .i64 r.1) ∧ Moved W s g false r.2 w') (a b c : Int) (S T : List UInt8) :
    Calls Try.prog 29 #[.pointer (some ⟨s, 0, none⟩), opV 7 a b c S T] w fun e w' => e = .returned (ansV r.1 0 []) ∧ Moved w s g false r.2 w' := by
  have HW := hide hw
  clear hw
  unfold opV
  obtain ⟨W3, HW3, hB, H1, H2⟩ := do_start w #[.int .i64 7, .int .i64 a, .int .i64 b, .int .i64 c, .string (str S), .string (str T)] 30
  have HD := hide (do_kept h hB H1.out H2.out)
  clear h
  go_enter Try.func29, Try.ntmps29
  go_wp2_with (first | (go_at_call 43; rw [← HW3.out]; refine (HW.out _ hB).mono ?_; rintro e W4 ⟨rfl, hm⟩; obtain ⟨hm4, P1, P2⟩ := HD.out W4 _ hm; obtain ⟨q0, q1, q3, z0, z1, z3⟩ := zero_cells P2.out; obtain ⟨D2, D1⟩ := do_set (b := w.heap.size) 0 (.int .i64 r.1) r.1 0 [] P2.out P1.out rfl) | (refine wpList_load_row rfl 27 _ rfl (w.heap.size + 1 + 1) rfl 27 _ (0, 0) _ D2.out Try.underlying27 rfl (info24a _ _ _) ?_) | (refine wpList_store_row rfl 27 _ _ rfl (w.heap.size + 1) _ rfl rfl 27 _ D1.out (info24a _ _ _) rfl (ansC_all _ _ _) ?_))
  refine bodyPost_ret (results_cell_row rfl _ _ (w.heap.size + 1) 27 (ansC r.1 0 []) (0, 0) _ rfl (setRow_heap _ _ _ _ _ _ D1.out) Try.underlying27 rfl (info24a _ _ _)) rfl ?_
  exact ⟨rfl, (hm4.setAt (by omega) P2.out (by decide) (by decide) nStill24).setRow (by omega) D1.out (by decide) (by decide) nStill24⟩
set_option maxHeartbeats 1000000 in
theorem do_word8 (h : Stk w s g false vs) (r : Int × St) (hw : ∀ W, Below w.heap.size w W → Calls Try.prog 44 #[.pointer (some ⟨s, 0, none⟩)] W fun e w' => e = .returned (.int .i64 r.1) ∧ Moved W s g false r.2 w') (a b c : Int) (S T : List UInt8) :
    Calls Try.prog 29 #[.pointer (some ⟨s, 0, none⟩), opV 8 a b c S T] w fun e w' => e = .returned (ansV r.1 0 []) ∧ Moved w s g false r.2 w' := by
  have HW := hide hw
  clear hw
  unfold opV
  obtain ⟨W3, HW3, hB, H1, H2⟩ := do_start w #[.int .i64 8, .int .i64 a, .int .i64 b, .int .i64 c, .string (str S), .string (str T)] 30
  have HD := hide (do_kept h hB H1.out H2.out)
  clear h
  go_enter Try.func29, Try.ntmps29
  go_wp2_with (first | (go_at_call 44; rw [← HW3.out]; refine (HW.out _ hB).mono ?_; rintro e W4 ⟨rfl, hm⟩; obtain ⟨hm4, P1, P2⟩ := HD.out W4 _ hm; obtain ⟨q0, q1, q3, z0, z1, z3⟩ := zero_cells P2.out; obtain ⟨D2, D1⟩ := do_set (b := w.heap.size) 0 (.int .i64 r.1) r.1 0 [] P2.out P1.out rfl) | (refine wpList_load_row rfl 27 _ rfl (w.heap.size + 1 + 1) rfl 27 _ (0, 0) _ D2.out Try.underlying27 rfl (info24a _ _ _) ?_) | (refine wpList_store_row rfl 27 _ _ rfl (w.heap.size + 1) _ rfl rfl 27 _ D1.out (info24a _ _ _) rfl (ansC_all _ _ _) ?_))
  refine bodyPost_ret (results_cell_row rfl _ _ (w.heap.size + 1) 27 (ansC r.1 0 []) (0, 0) _ rfl (setRow_heap _ _ _ _ _ _ D1.out) Try.underlying27 rfl (info24a _ _ _)) rfl ?_
  exact ⟨rfl, (hm4.setAt (by omega) P2.out (by decide) (by decide) nStill24).setRow (by omega) D1.out (by decide) (by decide) nStill24⟩
set_option maxHeartbeats 1000000 in
theorem do_word9 (h : Stk w s g false vs) (r : Int × St) (hw : ∀ W, Below w.heap.size w W → Calls Try.prog 45 #[.pointer (some ⟨s, 0, none⟩)] W fun e w' => e = .returned (.int .i64 r.1) ∧ Moved W s g false r.2 w') (a b c : Int) (S T : List UInt8) :
    Calls Try.prog 29 #[.pointer (some ⟨s, 0, none⟩), opV 9 a b c S T] w fun e w' => e = .returned (ansV r.1 0 []) ∧ Moved w s g false r.2 w' := by
  have HW := hide hw
  clear hw
  unfold opV
  obtain ⟨W3, HW3, hB, H1, H2⟩ := do_start w #[.int .i64 9, .int .i64 a, .int .i64 b, .int .i64 c, .string (str S), .string (str T)] 30
  have HD := hide (do_kept h hB H1.out H2.out)
  clear h
  go_enter Try.func29, Try.ntmps29
  go_wp2_with (first | (go_at_call 45; rw [← HW3.out]; refine (HW.out _ hB).mono ?_; rintro e W4 ⟨rfl, hm⟩; obtain ⟨hm4, P1, P2⟩ := HD.out W4 _ hm; obtain ⟨q0, q1, q3, z0, z1, z3⟩ := zero_cells P2.out; obtain ⟨D2, D1⟩ := do_set (b := w.heap.size) 0 (.int .i64 r.1) r.1 0 [] P2.out P1.out rfl) | (refine wpList_load_row rfl 27 _ rfl (w.heap.size + 1 + 1) rfl 27 _ (0, 0) _ D2.out Try.underlying27 rfl (info24a _ _ _) ?_) | (refine wpList_store_row rfl 27 _ _ rfl (w.heap.size + 1) _ rfl rfl 27 _ D1.out (info24a _ _ _) rfl (ansC_all _ _ _) ?_))
  refine bodyPost_ret (results_cell_row rfl _ _ (w.heap.size + 1) 27 (ansC r.1 0 []) (0, 0) _ rfl (setRow_heap _ _ _ _ _ _ D1.out) Try.underlying27 rfl (info24a _ _ _)) rfl ?_
  exact ⟨rfl, (hm4.setAt (by omega) P2.out (by decide) (by decide) nStill24).setRow (by omega) D1.out (by decide) (by decide) nStill24⟩
set_option maxHeartbeats 1000000 in
theorem do_word10 (h : Stk w s g false vs) (r : Int × St) (hw : ∀ W, Below w.heap.size w W → Calls Try.prog 46 #[.pointer (some ⟨s, 0, none⟩)] W fun e w' => e = .returned (.int .i64 r.1) ∧ Moved W s g false r.2 w') (a b c : Int) (S T : List UInt8) :
    Calls Try.prog 29 #[.pointer (some ⟨s, 0, none⟩), opV 10 a b c S T] w fun e w' => e = .returned (ansV r.1 0 []) ∧ Moved w s g false r.2 w' := by
  have HW := hide hw
  clear hw
  unfold opV
  obtain ⟨W3, HW3, hB, H1, H2⟩ := do_start w #[.int .i64 10, .int .i64 a, .int .i64 b, .int .i64 c, .string (str S), .string (str T)] 30
  have HD := hide (do_kept h hB H1.out H2.out)
  clear h
  go_enter Try.func29, Try.ntmps29
  go_wp2_with (first | (go_at_call 46; rw [← HW3.out]; refine (HW.out _ hB).mono ?_; rintro e W4 ⟨rfl, hm⟩; obtain ⟨hm4, P1, P2⟩ := HD.out W4 _ hm; obtain ⟨q0, q1, q3, z0, z1, z3⟩ := zero_cells P2.out; obtain ⟨D2, D1⟩ := do_set (b := w.heap.size) 0 (.int .i64 r.1) r.1 0 [] P2.out P1.out rfl) | (refine wpList_load_row rfl 27 _ rfl (w.heap.size + 1 + 1) rfl 27 _ (0, 0) _ D2.out Try.underlying27 rfl (info24a _ _ _) ?_) | (refine wpList_store_row rfl 27 _ _ rfl (w.heap.size + 1) _ rfl rfl 27 _ D1.out (info24a _ _ _) rfl (ansC_all _ _ _) ?_))
  refine bodyPost_ret (results_cell_row rfl _ _ (w.heap.size + 1) 27 (ansC r.1 0 []) (0, 0) _ rfl (setRow_heap _ _ _ _ _ _ D1.out) Try.underlying27 rfl (info24a _ _ _)) rfl ?_
  exact ⟨rfl, (hm4.setAt (by omega) P2.out (by decide) (by decide) nStill24).setRow (by omega) D1.out (by decide) (by decide) nStill24⟩
set_option maxHeartbeats 1000000 in
theorem do_push (a b c : Int) (S T : List UInt8) (h : Stk w s g false vs) (r : Int × St) (hw : ∀ W, Below w.heap.size w W → Calls Try.prog 37 #[.pointer (some ⟨s, 0, none⟩), .int .i64 a, .int .i64 b, .string (str S)] W fun e w' => e = .returned (.int .i64 r.1) ∧ Moved W s g false r.2 w') :
    Calls Try.prog 29 #[.pointer (some ⟨s, 0, none⟩), opV 1 a b c S T] w fun e w' => e = .returned (ansV r.1 0 []) ∧ Moved w s g false r.2 w' := by
  have HW := hide hw
  clear hw
  unfold opV
  obtain ⟨W3, HW3, hB, H1, H2⟩ := do_start w #[.int .i64 1, .int .i64 a, .int .i64 b, .int .i64 c, .string (str S), .string (str T)] 30
  have HD := hide (do_kept h hB H1.out H2.out)
  clear h
  go_enter Try.func29, Try.ntmps29
  go_wp2_with (first | (go_at_call 37; rw [← HW3.out]; refine (HW.out _ hB).mono ?_; rintro e W4 ⟨rfl, hm⟩; obtain ⟨hm4, P1, P2⟩ := HD.out W4 _ hm; obtain ⟨q0, q1, q3, z0, z1, z3⟩ := zero_cells P2.out; obtain ⟨D2, D1⟩ := do_set (b := w.heap.size) 0 (.int .i64 r.1) r.1 0 [] P2.out P1.out rfl) | (refine wpList_load_row rfl 27 _ rfl (w.heap.size + 1 + 1) rfl 27 _ (0, 0) _ D2.out Try.underlying27 rfl (info24a _ _ _) ?_) | (refine wpList_store_row rfl 27 _ _ rfl (w.heap.size + 1) _ rfl rfl 27 _ D1.out (info24a _ _ _) rfl (ansC_all _ _ _) ?_))
  refine bodyPost_ret (results_cell_row rfl _ _ (w.heap.size + 1) 27 (ansC r.1 0 []) (0, 0) _ rfl (setRow_heap _ _ _ _ _ _ D1.out) Try.underlying27 rfl (info24a _ _ _)) rfl ?_
  exact ⟨rfl, (hm4.setAt (by omega) P2.out (by decide) (by decide) nStill24).setRow (by omega) D1.out (by decide) (by decide) nStill24⟩
set_option maxHeartbeats 1000000 in
theorem do_extra (a b c : Int) (S T : List UInt8) (h : Stk w s g false vs) (r : Int × St) (hw : ∀ W, Below w.heap.size w W → Calls Try.prog 48 #[.pointer (some ⟨s, 0, none⟩), .int .i64 a] W fun e w' => e = .returned (.int .i64 r.1) ∧ Moved W s g false r.2 w') :
    Calls Try.prog 29 #[.pointer (some ⟨s, 0, none⟩), opV 12 a b c S T] w fun e w' => e = .returned (ansV r.1 0 []) ∧ Moved w s g false r.2 w' := by
  have HW := hide hw
  clear hw
  unfold opV
  obtain ⟨W3, HW3, hB, H1, H2⟩ := do_start w #[.int .i64 12, .int .i64 a, .int .i64 b, .int .i64 c, .string (str S), .string (str T)] 30
  have HD := hide (do_kept h hB H1.out H2.out)
  clear h
  go_enter Try.func29, Try.ntmps29
  go_wp2_with (first | (go_at_call 48; rw [← HW3.out]; refine (HW.out _ hB).mono ?_; rintro e W4 ⟨rfl, hm⟩; obtain ⟨hm4, P1, P2⟩ := HD.out W4 _ hm; obtain ⟨q0, q1, q3, z0, z1, z3⟩ := zero_cells P2.out; obtain ⟨D2, D1⟩ := do_set (b := w.heap.size) 0 (.int .i64 r.1) r.1 0 [] P2.out P1.out rfl) | (refine wpList_load_row rfl 27 _ rfl (w.heap.size + 1 + 1) rfl 27 _ (0, 0) _ D2.out Try.underlying27 rfl (info24a _ _ _) ?_) | (refine wpList_store_row rfl 27 _ _ rfl (w.heap.size + 1) _ rfl rfl 27 _ D1.out (info24a _ _ _) rfl (ansC_all _ _ _) ?_))
  refine bodyPost_ret (results_cell_row rfl _ _ (w.heap.size + 1) 27 (ansC r.1 0 []) (0, 0) _ rfl (setRow_heap _ _ _ _ _ _ D1.out) Try.underlying27 rfl (info24a _ _ _)) rfl ?_
  exact ⟨rfl, (hm4.setAt (by omega) P2.out (by decide) (by decide) nStill24).setRow (by omega) D1.out (by decide) (by decide) nStill24⟩
theorem depth_below {W : World} (h : Stk W s g false vs) (hok : Okay vs) : Calls Try.prog 49 #[.pointer (some ⟨s, 0, none⟩)] W fun e w' => e = .returned (.int .i64 vs.length) ∧ Below W.heap.size W w' := by
  obtain ⟨a, cap, xs, h⟩ := h
  refine (depth_calls h hok.1).mono ?_
  rintro e w' ⟨rfl, rfl⟩
  exact ⟨rfl, Below.refl _ _⟩
theorem topInt_below {W : World} (h : Stk W s g false vs) (hok : Okay vs) : Calls Try.prog 47 #[.pointer (some ⟨s, 0, none⟩)] W fun e w' => e = .returned (.tuple #[.int .i64 (topIntF vs).1, .int .i64 (topIntF vs).2]) ∧ Below W.heap.size W w' := by
  refine (topInt_calls h hok).mono ?_
  rintro e w' ⟨rfl, rfl⟩
  exact ⟨rfl, Below.refl _ _⟩
set_option maxHeartbeats 1000000 in
theorem do_depth (a b c : Int) (S T : List UInt8) (h : Stk w s g false vs) (hok : Okay vs) :
    Calls Try.prog 29 #[.pointer (some ⟨s, 0, none⟩), opV 13 a b c S T] w fun e w' => e = .returned (ansV 0 vs.length []) ∧ Moved w s g false vs w' := by
  unfold opV
  obtain ⟨W3, HW3, hB, H1, H2⟩ := do_start w #[.int .i64 13, .int .i64 a, .int .i64 b, .int .i64 c, .string (str S), .string (str T)] 30
  have HD := hide (do_kept h hB H1.out H2.out)
  have HW := hide (depth_below (h.below hB) hok)
  have HM : Hid (∀ W4, Below W3.heap.size W3 W4 → Moved W3 s g false vs W4) := fun W4 hb => Moved.below (h.below hB) hb
  clear h
  go_enter Try.func29, Try.ntmps29
  go_wp2_with (first | (go_at_call 49; rw [← HW3.out]; refine HW.out.mono ?_; rintro e W4 ⟨rfl, hb4⟩; obtain ⟨hm4, P1, P2⟩ := HD.out W4 _ (HM.out W4 hb4); obtain ⟨q0, q1, q3, z0, z1, z3⟩ := zero_cells P2.out; obtain ⟨D2, D1⟩ := do_set (b := w.heap.size) 1 (.int .i64 vs.length) 0 vs.length [] P2.out P1.out rfl) | (refine wpList_load_row rfl 27 _ rfl (w.heap.size + 1 + 1) rfl 27 _ (0, 0) _ D2.out Try.underlying27 rfl (info24a _ _ _) ?_) | (refine wpList_store_row rfl 27 _ _ rfl (w.heap.size + 1) _ rfl rfl 27 _ D1.out (info24a _ _ _) rfl (ansC_all _ _ _) ?_))
  refine bodyPost_ret (results_cell_row rfl _ _ (w.heap.size + 1) 27 (ansC 0 vs.length []) (0, 0) _ rfl (setRow_heap _ _ _ _ _ _ D1.out) Try.underlying27 rfl (info24a _ _ _)) rfl ?_
  exact ⟨rfl, (hm4.setAt (by omega) P2.out (by decide) (by decide) nStill24).setRow (by omega) D1.out (by decide) (by decide) nStill24⟩
set_option maxHeartbeats 1000000 in
theorem do_show (a b c : Int) (S T : List UInt8) (h : Stk w s g false vs) (hok : Okay vs) :
    Calls Try.prog 29 #[.pointer (some ⟨s, 0, none⟩), opV 14 a b c S T] w fun e w' => e = .returned (ansV 0 0 (showF vs)) ∧ Moved w s g false vs w' := by
  unfold opV
  obtain ⟨W3, HW3, hB, H1, H2⟩ := do_start w #[.int .i64 14, .int .i64 a, .int .i64 b, .int .i64 c, .string (str S), .string (str T)] 30
  have HD := hide (do_kept h hB H1.out H2.out)
  have HW := hide (stackShow_calls (h.below hB) hok)
  have HM : Hid (∀ W4, Below W3.heap.size W3 W4 → Moved W3 s g false vs W4) := fun W4 hb => Moved.below (h.below hB) hb
  clear h
  go_enter Try.func29, Try.ntmps29
  go_wp2_with (first | (go_at_call 25; rw [← HW3.out]; refine HW.out.mono ?_; rintro e W4 ⟨rfl, hb4⟩; obtain ⟨hm4, P1, P2⟩ := HD.out W4 _ (HM.out W4 hb4); obtain ⟨q0, q1, q3, z0, z1, z3⟩ := zero_cells P2.out; obtain ⟨D2, D1⟩ := do_set (b := w.heap.size) 3 (.string (str (showF vs))) 0 0 (showF vs) P2.out P1.out rfl) | (refine wpList_load_row rfl 27 _ rfl (w.heap.size + 1 + 1) rfl 27 _ (0, 0) _ D2.out Try.underlying27 rfl (info24a _ _ _) ?_) | (refine wpList_store_row rfl 27 _ _ rfl (w.heap.size + 1) _ rfl rfl 27 _ D1.out (info24a _ _ _) rfl (ansC_all _ _ _) ?_))
  refine bodyPost_ret (results_cell_row rfl _ _ (w.heap.size + 1) 27 (ansC 0 0 (showF vs)) (0, 0) _ rfl (setRow_heap _ _ _ _ _ _ D1.out) Try.underlying27 rfl (info24a _ _ _)) rfl ?_
  exact ⟨rfl, (hm4.setAt (by omega) P2.out (by decide) (by decide) nStill24).setRow (by omega) D1.out (by decide) (by decide) nStill24⟩
set_option maxHeartbeats 1000000 in
theorem do_check (a b c : Int) (S T : List UInt8) (h : Stk w s g false vs) (hok : Okay vs) :
    Calls Try.prog 29 #[.pointer (some ⟨s, 0, none⟩), opV 15 a b c S T] w fun e w' => e = .returned (ansV 0 1 []) ∧ Moved w s g false vs w' := by
  unfold opV
  obtain ⟨W3, HW3, hB, H1, H2⟩ := do_start w #[.int .i64 15, .int .i64 a, .int .i64 b, .int .i64 c, .string (str S), .string (str T)] 30
  have HD := hide (do_kept h hB H1.out H2.out)
  have HW := hide (check_calls (h.below hB) hok)
  have HM : Hid (∀ W4, Below W3.heap.size W3 W4 → Moved W3 s g false vs W4) := fun W4 hb => Moved.below (h.below hB) hb
  clear h
  go_enter Try.func29, Try.ntmps29
  go_wp2_with (first | (go_at_call 35; rw [← HW3.out]; refine HW.out.mono ?_; rintro e W4 ⟨rfl, hb4⟩; obtain ⟨hm4, P1, P2⟩ := HD.out W4 _ (HM.out W4 hb4); obtain ⟨q0, q1, q3, z0, z1, z3⟩ := zero_cells P2.out; obtain ⟨D2, D1⟩ := do_set (b := w.heap.size) 1 (.int .i64 1) 0 1 [] P2.out P1.out rfl) | (refine wpList_load_row rfl 27 _ rfl (w.heap.size + 1 + 1) rfl 27 _ (0, 0) _ D2.out Try.underlying27 rfl (info24a _ _ _) ?_) | (refine wpList_store_row rfl 27 _ _ rfl (w.heap.size + 1) _ rfl rfl 27 _ D1.out (info24a _ _ _) rfl (ansC_all _ _ _) ?_))
  refine bodyPost_ret (results_cell_row rfl _ _ (w.heap.size + 1) 27 (ansC 0 1 []) (0, 0) _ rfl (setRow_heap _ _ _ _ _ _ D1.out) Try.underlying27 rfl (info24a _ _ _)) rfl ?_
  exact ⟨rfl, (hm4.setAt (by omega) P2.out (by decide) (by decide) nStill24).setRow (by omega) D1.out (by decide) (by decide) nStill24⟩
set_option maxHeartbeats 1000000 in
theorem do_topInt (a b c : Int) (S T : List UInt8) (h : Stk w s g false vs) (hok : Okay vs) :
    Calls Try.prog 29 #[.pointer (some ⟨s, 0, none⟩), opV 11 a b c S T] w fun e w' => e = .returned (ansV (topIntF vs).2 (topIntF vs).1 []) ∧ Moved w s g false vs w' := by
  unfold opV
  obtain ⟨W3, HW3, hB, H1, H2⟩ := do_start w #[.int .i64 11, .int .i64 a, .int .i64 b, .int .i64 c, .string (str S), .string (str T)] 30
  have HD := hide (do_kept h hB H1.out H2.out)
  have HW := hide (topInt_below (h.below hB) hok)
  have HM : Hid (∀ W4, Below W3.heap.size W3 W4 → Moved W3 s g false vs W4) := fun W4 hb => Moved.below (h.below hB) hb
  clear h
  generalize hT : topIntF vs = tt at *
  clear hT
  go_enter Try.func29, Try.ntmps29
  go_wp2_with (first | (go_at_call 47; rw [← HW3.out]; refine HW.out.mono ?_; rintro e W4 ⟨rfl, hb4⟩; obtain ⟨hm4, P1, P2⟩ := HD.out W4 _ (HM.out W4 hb4); obtain ⟨q0, q1, q3, z0, z1, z3⟩ := zero_cells P2.out; obtain ⟨E2, E1⟩ := do_set (b := w.heap.size) 1 (.int .i64 tt.1) 0 tt.1 [] P2.out P1.out rfl; obtain ⟨D2, D1⟩ := do_set (b := w.heap.size) 0 (.int .i64 tt.2) tt.2 tt.1 [] E2.out E1.out rfl) | (refine wpList_load_row rfl 27 _ rfl (w.heap.size + 1 + 1) rfl 27 _ (0, 0) _ D2.out Try.underlying27 rfl (info24a _ _ _) ?_) | (refine wpList_store_row rfl 27 _ _ rfl (w.heap.size + 1) _ rfl rfl 27 _ D1.out (info24a _ _ _) rfl (ansC_all _ _ _) ?_))
  refine bodyPost_ret (results_cell_row rfl _ _ (w.heap.size + 1) 27 (ansC tt.2 tt.1 []) (0, 0) _ rfl (setRow_heap _ _ _ _ _ _ D1.out) Try.underlying27 rfl (info24a _ _ _)) rfl ?_
  exact ⟨rfl, ((hm4.setAt (by omega) P2.out (by decide) (by decide) nStill24).setAt (by omega) E2.out (by decide) (by decide) nStill24).setRow (by omega) D1.out (by decide) (by decide) nStill24⟩
set_option maxHeartbeats 1000000 in
theorem do_none (k a b c : Int) (S T : List UInt8) (h : Stk w s g false vs) (hk : k < 1 ∨ 15 < k) :
    Calls Try.prog 29 #[.pointer (some ⟨s, 0, none⟩), opV k a b c S T] w fun e w' => e = .returned (ansV 0 0 []) ∧ Moved w s g false vs w' := by
  unfold opV
  obtain ⟨W3, HW3, hB, H1, H2⟩ := do_start w #[.int .i64 k, .int .i64 a, .int .i64 b, .int .i64 c, .string (str S), .string (str T)] 30
  have D2 : Hid (W3.heap[w.heap.size + 1 + 1]? = some (.cells (ansC 0 0 []) 27 (0, 0))) := H2
  have D1 : Hid (W3.heap[w.heap.size + 1]? = some (.cells zero4 27 (0, 0))) := H1
  have hm4 := Moved.below h hB
  have n1 : (k == 1) = false := beq_false_of_ne (by show k ≠ 1; omega)
  have n2 : (k == 2) = false := beq_false_of_ne (by show k ≠ 2; omega)
  have n3 : (k == 3) = false := beq_false_of_ne (by show k ≠ 3; omega)
  have n4 : (k == 4) = false := beq_false_of_ne (by show k ≠ 4; omega)
  have n5 : (k == 5) = false := beq_false_of_ne (by show k ≠ 5; omega)
  have n6 : (k == 6) = false := beq_false_of_ne (by show k ≠ 6; omega)
  have n7 : (k == 7) = false := beq_false_of_ne (by show k ≠ 7; omega)
  have n8 : (k == 8) = false := beq_false_of_ne (by show k ≠ 8; omega)
  have n9 : (k == 9) = false := beq_false_of_ne (by show k ≠ 9; omega)
  have n10 : (k == 10) = false := beq_false_of_ne (by show k ≠ 10; omega)
  have n11 : (k == 11) = false := beq_false_of_ne (by show k ≠ 11; omega)
  have n12 : (k == 12) = false := beq_false_of_ne (by show k ≠ 12; omega)
  have n13 : (k == 13) = false := beq_false_of_ne (by show k ≠ 13; omega)
  have n14 : (k == 14) = false := beq_false_of_ne (by show k ≠ 14; omega)
  have n15 : (k == 15) = false := beq_false_of_ne (by show k ≠ 15; omega)
  clear h hk
  go_enter Try.func29, Try.ntmps29
  go_wp2_with (first | (rw [← HW3.out]; refine wpList_load_row rfl 27 _ rfl (w.heap.size + 1 + 1) rfl 27 _ (0, 0) _ D2.out Try.underlying27 rfl (info24a _ _ _) ?_) | (refine wpList_store_row rfl 27 _ _ rfl (w.heap.size + 1) _ rfl rfl 27 _ D1.out (info24a _ _ _) rfl (ansC_all _ _ _) ?_))
  refine bodyPost_ret (results_cell_row rfl _ _ (w.heap.size + 1) 27 (ansC 0 0 []) (0, 0) _ rfl (setRow_heap _ _ _ _ _ _ D1.out) Try.underlying27 rfl (info24a _ _ _)) rfl ?_
  exact ⟨rfl, hm4.setRow (by omega) D1.out (by decide) (by decide) nStill24⟩
end
end Go.Proofs.Qxb6500606a
