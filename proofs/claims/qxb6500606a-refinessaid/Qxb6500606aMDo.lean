/-
  The model valsm: DoM. (Seat 606 alone. Written after Do.tpl by program.)
-/
import Derived.Test.Qxb6500606aMCheck
import Derived.Test.Qxb6500606aMNeg
import Derived.Test.Qxb6500606aMFind
import Derived.Test.Qxb6500606aMFold
import Derived.Test.Qxb6500606aMSpread
import Derived.Test.Qxb6500606aMEcho
namespace Go.Proofs.Qxb6500606a
open Go.ChangeShapes Go.WideShapes Go.ChangeAt Go.RowKit Go.Shelf
set_option linter.unusedVariables false

theorem MStk.tag {w : World} {m : Nat} {g : Option Nat} {vs : St} (h : MStk w m g vs) {b : Nat} (hb : mown m g b) : ∃ c t, w.heap[b]? = some (.cells c t) ∧ (t = 63 ∨ t = 79) := by
  obtain ⟨k, css, h1, h2, h3⟩ := h
  rcases hb with rfl | hg
  · exact ⟨_, _, h1, .inl rfl⟩
  · obtain ⟨a, cap, rfl, _, h4, _⟩ := ownsRow_slice4 h3.row
    obtain ⟨_, cur, h6, _⟩ := h4 b (h2.trans hg)
    exact ⟨_, _, h6, .inr rfl⟩
theorem MMoved.keepsBlock {W W' : World} {s b : Nat} {g : Option Nat} {vs vs' : St} {c : Array Value} {t : TypeId} (h : MStk W s g vs) (hm : MMoved W s g vs' W') (hb : W.heap[b]? = some (.cells c t)) (h1 : t ≠ 63) (h2 : t ≠ 79) : W'.heap[b]? = some (.cells c t) := by
  obtain ⟨g', _, _, ho⟩ := hm
  refine (ho.block b (lt_of_heap hb) fun hx => ?_).trans hb
  obtain ⟨c', t', e, ht⟩ := h.tag hx
  rw [hb] at e
  cases e
  exact ht.elim h1 h2
/-- The model's stack in a world in which its kinds of blocks lie as they lay. -/
theorem MStk.keepM {w w' : World} {m : Nat} {g : Option Nat} {vs : St} (h : MStk w m g vs) (hk : ∀ (b : Nat) (c : Array Value) (t : TypeId), (t = 63 ∨ t = 79) → w.heap[b]? = some (.cells c t) → w'.heap[b]? = some (.cells c t)) : MStk w' m g vs := by
  obtain ⟨k, css, h1, h2, h3⟩ := h
  refine ⟨k, css, hk m _ 63 (.inl rfl) h1, h2, h3.keep (fun b c e hne => ⟨hk b c 79 (.inr rfl) e, hne⟩) ⟨h3.row.1, orMap h3.row.2 id ?_⟩⟩
  rintro ⟨g', cap, cur, e1, e2, e3, e4⟩
  exact ⟨g', cap, cur, e1, e2, hk _ _ 79 (.inr rfl) e3, e4⟩
theorem MMoved.setAt {w W : World} {s : Nat} {g : Option Nat} {vs : St} {b i : Nat} {c : Array Value} {v : Value} {t : TypeId} (hm : MMoved w s g vs W) (hb : w.heap.size ≤ b) (hc : W.heap[b]? = some (.cells c t)) (h1 : t ≠ 63) (h2 : t ≠ 79) (h3 : ¬ still t) : MMoved w s g vs (W.setCell ⟨b, i, none⟩ v) := by
  obtain ⟨g', h, hg, ho⟩ := hm
  refine ⟨g', h.keepM (fun b' c' t' ht e => (Below.heap_setCell W _ v b' ?_).trans e), hg, ho.setCell (.inr hb) v⟩
  intro eb
  have eb' : b' = b := eb
  rw [eb', hc] at e
  cases e
  exact ht.elim h1 h2
theorem MMoved.setRow {w W : World} {s : Nat} {g : Option Nat} {vs : St} {b : Nat} {c : Array Value} {cs : Array Value} {t : TypeId} (hm : MMoved w s g vs W) (hb : w.heap.size ≤ b) (hc : W.heap[b]? = some (.cells c t)) (h1 : t ≠ 63) (h2 : t ≠ 79) (h3 : ¬ still t) : MMoved w s g vs (W.setRow b cs) := by
  obtain ⟨g', h, hg, ho⟩ := hm
  refine ⟨g', h.keepM (fun b' c' t' ht e => (setRow_other W b b' cs ?_).trans e), hg, ⟨ho.os, ho.tape, ho.output, by rw [size_setRow]; exact ho.size, fun k hk hn => (setRow_other W b k cs (by omega)).trans (ho.block k hk hn)⟩⟩
  rintro rfl
  rw [hc] at e
  cases e
  exact ht.elim h1 h2
section
variable {w : World} {s : Nat} {g : Option Nat} {vs : List V}
theorem mdo_kept {W3 : World} (h : MStk w s g vs) (hB : Below w.heap.size w W3) (h1 : W3.heap[w.heap.size + 1]? = some (.cells zero4 27)) (h2 : W3.heap[w.heap.size + 1 + 1]? = some (.cells zero4 27)) (W4 : World) (vs' : St) (hm : MMoved W3 s g vs' W4) :
    MMoved w s g vs' W4 ∧ Hid (W4.heap[w.heap.size + 1]? = some (.cells zero4 27)) ∧ Hid (W4.heap[w.heap.size + 1 + 1]? = some (.cells zero4 27)) :=
  ⟨MMoved.after hB hm, hm.keepsBlock (h.below hB) h1 (by decide) (by decide), hm.keepsBlock (h.below hB) h2 (by decide) (by decide)⟩
set_option maxHeartbeats 1000000 in
theorem mdo_word2 (h : MStk w s g vs) (r : Int × St) (hw : ∀ W, Below w.heap.size w W → Calls Try.prog 51 #[.pointer (some ⟨s, 0, none⟩)] W fun e w' => e = .returned (.int .i64 r.1) ∧ MMoved W s g r.2 w') (a b c : Int) (S T : List UInt8) :
    Calls Try.prog 30 #[.pointer (some ⟨s, 0, none⟩), opV 2 a b c S T] w fun e w' => e = .returned (ansV r.1 0 []) ∧ MMoved w s g r.2 w' := by
  have HW := hide hw
  clear hw
  unfold opV
  obtain ⟨W3, HW3, hB, H1, H2⟩ := do_start w #[.int .i64 2, .int .i64 a, .int .i64 b, .int .i64 c, .string (str S), .string (str T)] 30
  have HD := hide (mdo_kept h hB H1.out H2.out)
  clear h
  go_enter Try.func30, Try.ntmps30
  go_wp2_with (first | (go_at_call 51; rw [← HW3.out]; refine (HW.out _ hB).mono ?_; rintro e W4 ⟨rfl, hm⟩; obtain ⟨hm4, P1, P2⟩ := HD.out W4 _ hm; obtain ⟨q0, q1, q3, z0, z1, z3⟩ := zero_cells P2.out; obtain ⟨D2, D1⟩ := do_set (b := w.heap.size) 0 (.int .i64 r.1) r.1 0 [] P2.out P1.out rfl) | (refine wpList_load_row rfl 27 _ rfl (w.heap.size + 1 + 1) rfl 27 _ (0, 0) _ D2.out Try.underlying27 rfl (info24a _ _ _) ?_) | (refine wpList_store_row rfl 27 _ _ rfl (w.heap.size + 1) _ rfl rfl 27 _ D1.out (info24a _ _ _) rfl (ansC_all _ _ _) ?_))
  refine bodyPost_ret (results_cell_row rfl _ _ (w.heap.size + 1) 27 (ansC r.1 0 []) (0, 0) _ rfl (setRow_heap _ _ _ _ _ _ D1.out) Try.underlying27 rfl (info24a _ _ _)) rfl ?_
  exact ⟨rfl, (hm4.setAt (by omega) P2.out (by decide) (by decide) nStill24).setRow (by omega) D1.out (by decide) (by decide) nStill24⟩
set_option maxHeartbeats 1000000 in
theorem mdo_word3 (h : MStk w s g vs) (r : Int × St) (hw : ∀ W, Below w.heap.size w W → Calls Try.prog 52 #[.pointer (some ⟨s, 0, none⟩)] W fun e w' => e = .returned (.int .i64 r.1) ∧ MMoved W s g r.2 w') (a b c : Int) (S T : List UInt8) :
    Calls Try.prog 30 #[.pointer (some ⟨s, 0, none⟩), opV 3 a b c S T] w fun e w' => e = .returned (ansV r.1 0 []) ∧ MMoved w s g r.2 w' := by
  have HW := hide hw
  clear hw
  unfold opV
  obtain ⟨W3, HW3, hB, H1, H2⟩ := do_start w #[.int .i64 3, .int .i64 a, .int .i64 b, .int .i64 c, .string (str S), .string (str T)] 30
  have HD := hide (mdo_kept h hB H1.out H2.out)
  clear h
  go_enter Try.func30, Try.ntmps30
  go_wp2_with (first | (go_at_call 52; rw [← HW3.out]; refine (HW.out _ hB).mono ?_; rintro e W4 ⟨rfl, hm⟩; obtain ⟨hm4, P1, P2⟩ := HD.out W4 _ hm; obtain ⟨q0, q1, q3, z0, z1, z3⟩ := zero_cells P2.out; obtain ⟨D2, D1⟩ := do_set (b := w.heap.size) 0 (.int .i64 r.1) r.1 0 [] P2.out P1.out rfl) | (refine wpList_load_row rfl 27 _ rfl (w.heap.size + 1 + 1) rfl 27 _ (0, 0) _ D2.out Try.underlying27 rfl (info24a _ _ _) ?_) | (refine wpList_store_row rfl 27 _ _ rfl (w.heap.size + 1) _ rfl rfl 27 _ D1.out (info24a _ _ _) rfl (ansC_all _ _ _) ?_))
  refine bodyPost_ret (results_cell_row rfl _ _ (w.heap.size + 1) 27 (ansC r.1 0 []) (0, 0) _ rfl (setRow_heap _ _ _ _ _ _ D1.out) Try.underlying27 rfl (info24a _ _ _)) rfl ?_
  exact ⟨rfl, (hm4.setAt (by omega) P2.out (by decide) (by decide) nStill24).setRow (by omega) D1.out (by decide) (by decide) nStill24⟩
set_option maxHeartbeats 1000000 in
theorem mdo_word4 (h : MStk w s g vs) (r : Int × St) (hw : ∀ W, Below w.heap.size w W → Calls Try.prog 53 #[.pointer (some ⟨s, 0, none⟩)] W fun e w' => e = .returned (.int .i64 r.1) ∧ MMoved W s g r.2 w') (a b c : Int) (S T : List UInt8) :
    Calls Try.prog 30 #[.pointer (some ⟨s, 0, none⟩), opV 4 a b c S T] w fun e w' => e = .returned (ansV r.1 0 []) ∧ MMoved w s g r.2 w' := by
  have HW := hide hw
  clear hw
  unfold opV
  obtain ⟨W3, HW3, hB, H1, H2⟩ := do_start w #[.int .i64 4, .int .i64 a, .int .i64 b, .int .i64 c, .string (str S), .string (str T)] 30
  have HD := hide (mdo_kept h hB H1.out H2.out)
  clear h
  go_enter Try.func30, Try.ntmps30
  go_wp2_with (first | (go_at_call 53; rw [← HW3.out]; refine (HW.out _ hB).mono ?_; rintro e W4 ⟨rfl, hm⟩; obtain ⟨hm4, P1, P2⟩ := HD.out W4 _ hm; obtain ⟨q0, q1, q3, z0, z1, z3⟩ := zero_cells P2.out; obtain ⟨D2, D1⟩ := do_set (b := w.heap.size) 0 (.int .i64 r.1) r.1 0 [] P2.out P1.out rfl) | (refine wpList_load_row rfl 27 _ rfl (w.heap.size + 1 + 1) rfl 27 _ (0, 0) _ D2.out Try.underlying27 rfl (info24a _ _ _) ?_) | (refine wpList_store_row rfl 27 _ _ rfl (w.heap.size + 1) _ rfl rfl 27 _ D1.out (info24a _ _ _) rfl (ansC_all _ _ _) ?_))
  refine bodyPost_ret (results_cell_row rfl _ _ (w.heap.size + 1) 27 (ansC r.1 0 []) (0, 0) _ rfl (setRow_heap _ _ _ _ _ _ D1.out) Try.underlying27 rfl (info24a _ _ _)) rfl ?_
  exact ⟨rfl, (hm4.setAt (by omega) P2.out (by decide) (by decide) nStill24).setRow (by omega) D1.out (by decide) (by decide) nStill24⟩
set_option maxHeartbeats 1000000 in
theorem mdo_word5 (h : MStk w s g vs) (r : Int × St) (hw : ∀ W, Below w.heap.size w W → Calls Try.prog 54 #[.pointer (some ⟨s, 0, none⟩)] W fun e w' => e = .returned (.int .i64 r.1) ∧ MMoved W s g r.2 w') (a b c : Int) (S T : List UInt8) :
    Calls Try.prog 30 #[.pointer (some ⟨s, 0, none⟩), opV 5 a b c S T] w fun e w' => e = .returned (ansV r.1 0 []) ∧ MMoved w s g r.2 w' := by
  have HW := hide hw
  clear hw
  unfold opV
  obtain ⟨W3, HW3, hB, H1, H2⟩ := do_start w #[.int .i64 5, .int .i64 a, .int .i64 b, .int .i64 c, .string (str S), .string (str T)] 30
  have HD := hide (mdo_kept h hB H1.out H2.out)
  clear h
  go_enter Try.func30, Try.ntmps30
  go_wp2_with (first | (go_at_call 54; rw [← HW3.out]; refine (HW.out _ hB).mono ?_; rintro e W4 ⟨rfl, hm⟩; obtain ⟨hm4, P1, P2⟩ := HD.out W4 _ hm; obtain ⟨q0, q1, q3, z0, z1, z3⟩ := zero_cells P2.out; obtain ⟨D2, D1⟩ := do_set (b := w.heap.size) 0 (.int .i64 r.1) r.1 0 [] P2.out P1.out rfl) | (refine wpList_load_row rfl 27 _ rfl (w.heap.size + 1 + 1) rfl 27 _ (0, 0) _ D2.out Try.underlying27 rfl (info24a _ _ _) ?_) | (refine wpList_store_row rfl 27 _ _ rfl (w.heap.size + 1) _ rfl rfl 27 _ D1.out (info24a _ _ _) rfl (ansC_all _ _ _) ?_))
  refine bodyPost_ret (results_cell_row rfl _ _ (w.heap.size + 1) 27 (ansC r.1 0 []) (0, 0) _ rfl (setRow_heap _ _ _ _ _ _ D1.out) Try.underlying27 rfl (info24a _ _ _)) rfl ?_
  exact ⟨rfl, (hm4.setAt (by omega) P2.out (by decide) (by decide) nStill24).setRow (by omega) D1.out (by decide) (by decide) nStill24⟩
set_option maxHeartbeats 1000000 in
theorem mdo_word6 (h : MStk w s g vs) (r : Int × St) (hw : ∀ W, Below w.heap.size w W → Calls Try.prog 55 #[.pointer (some ⟨s, 0, none⟩)] W fun e w' => e = .returned (.int .i64 r.1) ∧ MMoved W s g r.2 w') (a b c : Int) (S T : List UInt8) :
    Calls Try.prog 30 #[.pointer (some ⟨s, 0, none⟩), opV 6 a b c S T] w fun e w' => e = .returned (ansV r.1 0 []) ∧ MMoved w s g r.2 w' := by
  have HW := hide hw
  clear hw
  unfold opV
  obtain ⟨W3, HW3, hB, H1, H2⟩ := do_start w #[.int .i64 6, .int .i64 a, .int .i64 b, .int .i64 c, .string (str S), .string (str T)] 30
  have HD := hide (mdo_kept h hB H1.out H2.out)
  clear h
  go_enter Try.func30, Try.ntmps30
  go_wp2_with (first | (go_at_call 55; rw [← HW3.out]; refine (HW.out _ hB).mono ?_; rintro e W4 ⟨rfl, hm⟩; obtain ⟨hm4, P1, P2⟩ := HD.out W4 _ hm; obtain ⟨q0, q1, q3, z0, z1, z3⟩ := zero_cells P2.out; obtain ⟨D2, D1⟩ := do_set (b := w.heap.size) 0 (.int .i64 r.1) r.1 0 [] P2.out P1.out rfl) | (refine wpList_load_row rfl 27 _ rfl (w.heap.size + 1 + 1) rfl 27 _ (0, 0) _ D2.out Try.underlying27 rfl (info24a _ _ _) ?_) | (refine wpList_store_row rfl 27 _ _ rfl (w.heap.size + 1) _ rfl rfl 27 _ D1.out (info24a _ _ _) rfl (ansC_all _ _ _) ?_))
  refine bodyPost_ret (results_cell_row rfl _ _ (w.heap.size + 1) 27 (ansC r.1 0 []) (0, 0) _ rfl (setRow_heap _ _ _ _ _ _ D1.out) Try.underlying27 rfl (info24a _ _ _)) rfl ?_
  exact ⟨rfl, (hm4.setAt (by omega) P2.out (by decide) (by decide) nStill24).setRow (by omega) D1.out (by decide) (by decide) nStill24⟩
set_option maxHeartbeats 1000000 in
theorem mdo_word7 (h : MStk w s g vs) (r : Int × St) (hw : ∀ W, Below w.heap.size w W → Calls Try.prog 56 #[.pointer (some ⟨s, 0, none⟩)] W fun e w' => e = .returned (.int .i64 r.1) ∧ MMoved W s g r.2 w') (a b c : Int) (S T : List UInt8) :
    Calls Try.prog 30 #[.pointer (some ⟨s, 0, none⟩), opV 7 a b c S T] w fun e w' => e = .returned (ansV r.1 0 []) ∧ MMoved w s g r.2 w' := by
  have HW := hide hw
  clear hw
  unfold opV
  obtain ⟨W3, HW3, hB, H1, H2⟩ := do_start w #[.int .i64 7, .int .i64 a, .int .i64 b, .int .i64 c, .string (str S), .string (str T)] 30
  have HD := hide (mdo_kept h hB H1.out H2.out)
  clear h
  go_enter Try.func30, Try.ntmps30
  go_wp2_with (first | (go_at_call 56; rw [← HW3.out]; refine (HW.out _ hB).mono ?_; rintro e W4 ⟨rfl, hm⟩; obtain ⟨hm4, P1, P2⟩ := HD.out W4 _ hm; obtain ⟨q0, q1, q3, z0, z1, z3⟩ := zero_cells P2.out; obtain ⟨D2, D1⟩ := do_set (b := w.heap.size) 0 (.int .i64 r.1) r.1 0 [] P2.out P1.out rfl) | (refine wpList_load_row rfl 27 _ rfl (w.heap.size + 1 + 1) rfl 27 _ (0, 0) _ D2.out Try.underlying27 rfl (info24a _ _ _) ?_) | (refine wpList_store_row rfl 27 _ _ rfl (w.heap.size + 1) _ rfl rfl 27 _ D1.out (info24a _ _ _) rfl (ansC_all _ _ _) ?_))
  refine bodyPost_ret (results_cell_row rfl _ _ (w.heap.size + 1) 27 (ansC r.1 0 []) (0, 0) _ rfl (setRow_heap _ _ _ _ _ _ D1.out) Try.underlying27 rfl (info24a _ _ _)) rfl ?_
  exact ⟨rfl, (hm4.setAt (by omega) P2.out (by decide) (by decide) nStill24).setRow (by omega) D1.out (by decide) (by decide) nStill24⟩
set_option maxHeartbeats 1000000 in
theorem mdo_word8 (h : MStk w s g vs) (r : Int × St) (hw : ∀ W, Below w.heap.size w W → Calls Try.prog 57 #[.pointer (some ⟨s, 0, none⟩)] W fun e w' => e = .returned (.int .i64 r.1) ∧ MMoved W s g r.2 w') (a b c : Int) (S T : List UInt8) :
    Calls Try.prog 30 #[.pointer (some ⟨s, 0, none⟩), opV 8 a b c S T] w fun e w' => e = .returned (ansV r.1 0 []) ∧ MMoved w s g r.2 w' := by
  have HW := hide hw
  clear hw
  unfold opV
  obtain ⟨W3, HW3, hB, H1, H2⟩ := do_start w #[.int .i64 8, .int .i64 a, .int .i64 b, .int .i64 c, .string (str S), .string (str T)] 30
  have HD := hide (mdo_kept h hB H1.out H2.out)
  clear h
  go_enter Try.func30, Try.ntmps30
  go_wp2_with (first | (go_at_call 57; rw [← HW3.out]; refine (HW.out _ hB).mono ?_; rintro e W4 ⟨rfl, hm⟩; obtain ⟨hm4, P1, P2⟩ := HD.out W4 _ hm; obtain ⟨q0, q1, q3, z0, z1, z3⟩ := zero_cells P2.out; obtain ⟨D2, D1⟩ := do_set (b := w.heap.size) 0 (.int .i64 r.1) r.1 0 [] P2.out P1.out rfl) | (refine wpList_load_row rfl 27 _ rfl (w.heap.size + 1 + 1) rfl 27 _ (0, 0) _ D2.out Try.underlying27 rfl (info24a _ _ _) ?_) | (refine wpList_store_row rfl 27 _ _ rfl (w.heap.size + 1) _ rfl rfl 27 _ D1.out (info24a _ _ _) rfl (ansC_all _ _ _) ?_))
  refine bodyPost_ret (results_cell_row rfl _ _ (w.heap.size + 1) 27 (ansC r.1 0 []) (0, 0) _ rfl (setRow_heap _ _ _ _ _ _ D1.out) Try.underlying27 rfl (info24a _ _ _)) rfl ?_
  exact ⟨rfl, (hm4.setAt (by omega) P2.out (by decide) (by decide) nStill24).setRow (by omega) D1.out (by decide) (by decide) nStill24⟩
set_option maxHeartbeats 1000000 in
theorem mdo_word9 (h : MStk w s g vs) (r : Int × St) (hw : ∀ W, Below w.heap.size w W → Calls Try.prog 58 #[.pointer (some ⟨s, 0, none⟩)] W fun e w' => e = .returned (.int .i64 r.1) ∧ MMoved W s g r.2 w') (a b c : Int) (S T : List UInt8) :
    Calls Try.prog 30 #[.pointer (some ⟨s, 0, none⟩), opV 9 a b c S T] w fun e w' => e = .returned (ansV r.1 0 []) ∧ MMoved w s g r.2 w' := by
  have HW := hide hw
  clear hw
  unfold opV
  obtain ⟨W3, HW3, hB, H1, H2⟩ := do_start w #[.int .i64 9, .int .i64 a, .int .i64 b, .int .i64 c, .string (str S), .string (str T)] 30
  have HD := hide (mdo_kept h hB H1.out H2.out)
  clear h
  go_enter Try.func30, Try.ntmps30
  go_wp2_with (first | (go_at_call 58; rw [← HW3.out]; refine (HW.out _ hB).mono ?_; rintro e W4 ⟨rfl, hm⟩; obtain ⟨hm4, P1, P2⟩ := HD.out W4 _ hm; obtain ⟨q0, q1, q3, z0, z1, z3⟩ := zero_cells P2.out; obtain ⟨D2, D1⟩ := do_set (b := w.heap.size) 0 (.int .i64 r.1) r.1 0 [] P2.out P1.out rfl) | (refine wpList_load_row rfl 27 _ rfl (w.heap.size + 1 + 1) rfl 27 _ (0, 0) _ D2.out Try.underlying27 rfl (info24a _ _ _) ?_) | (refine wpList_store_row rfl 27 _ _ rfl (w.heap.size + 1) _ rfl rfl 27 _ D1.out (info24a _ _ _) rfl (ansC_all _ _ _) ?_))
  refine bodyPost_ret (results_cell_row rfl _ _ (w.heap.size + 1) 27 (ansC r.1 0 []) (0, 0) _ rfl (setRow_heap _ _ _ _ _ _ D1.out) Try.underlying27 rfl (info24a _ _ _)) rfl ?_
  exact ⟨rfl, (hm4.setAt (by omega) P2.out (by decide) (by decide) nStill24).setRow (by omega) D1.out (by decide) (by decide) nStill24⟩
set_option maxHeartbeats 1000000 in
theorem mdo_word10 (h : MStk w s g vs) (r : Int × St) (hw : ∀ W, Below w.heap.size w W → Calls Try.prog 59 #[.pointer (some ⟨s, 0, none⟩)] W fun e w' => e = .returned (.int .i64 r.1) ∧ MMoved W s g r.2 w') (a b c : Int) (S T : List UInt8) :
    Calls Try.prog 30 #[.pointer (some ⟨s, 0, none⟩), opV 10 a b c S T] w fun e w' => e = .returned (ansV r.1 0 []) ∧ MMoved w s g r.2 w' := by
  have HW := hide hw
  clear hw
  unfold opV
  obtain ⟨W3, HW3, hB, H1, H2⟩ := do_start w #[.int .i64 10, .int .i64 a, .int .i64 b, .int .i64 c, .string (str S), .string (str T)] 30
  have HD := hide (mdo_kept h hB H1.out H2.out)
  clear h
  go_enter Try.func30, Try.ntmps30
  go_wp2_with (first | (go_at_call 59; rw [← HW3.out]; refine (HW.out _ hB).mono ?_; rintro e W4 ⟨rfl, hm⟩; obtain ⟨hm4, P1, P2⟩ := HD.out W4 _ hm; obtain ⟨q0, q1, q3, z0, z1, z3⟩ := zero_cells P2.out; obtain ⟨D2, D1⟩ := do_set (b := w.heap.size) 0 (.int .i64 r.1) r.1 0 [] P2.out P1.out rfl) | (refine wpList_load_row rfl 27 _ rfl (w.heap.size + 1 + 1) rfl 27 _ (0, 0) _ D2.out Try.underlying27 rfl (info24a _ _ _) ?_) | (refine wpList_store_row rfl 27 _ _ rfl (w.heap.size + 1) _ rfl rfl 27 _ D1.out (info24a _ _ _) rfl (ansC_all _ _ _) ?_))
  refine bodyPost_ret (results_cell_row rfl _ _ (w.heap.size + 1) 27 (ansC r.1 0 []) (0, 0) _ rfl (setRow_heap _ _ _ _ _ _ D1.out) Try.underlying27 rfl (info24a _ _ _)) rfl ?_
  exact ⟨rfl, (hm4.setAt (by omega) P2.out (by decide) (by decide) nStill24).setRow (by omega) D1.out (by decide) (by decide) nStill24⟩
set_option maxHeartbeats 1000000 in
theorem mdo_push (a b c : Int) (S T : List UInt8) (h : MStk w s g vs) (r : Int × St) (hw : ∀ W, Below w.heap.size w W → Calls Try.prog 50 #[.pointer (some ⟨s, 0, none⟩), .int .i64 a, .int .i64 b, .string (str S)] W fun e w' => e = .returned (.int .i64 r.1) ∧ MMoved W s g r.2 w') :
    Calls Try.prog 30 #[.pointer (some ⟨s, 0, none⟩), opV 1 a b c S T] w fun e w' => e = .returned (ansV r.1 0 []) ∧ MMoved w s g r.2 w' := by
  have HW := hide hw
  clear hw
  unfold opV
  obtain ⟨W3, HW3, hB, H1, H2⟩ := do_start w #[.int .i64 1, .int .i64 a, .int .i64 b, .int .i64 c, .string (str S), .string (str T)] 30
  have HD := hide (mdo_kept h hB H1.out H2.out)
  clear h
  go_enter Try.func30, Try.ntmps30
  go_wp2_with (first | (go_at_call 50; rw [← HW3.out]; refine (HW.out _ hB).mono ?_; rintro e W4 ⟨rfl, hm⟩; obtain ⟨hm4, P1, P2⟩ := HD.out W4 _ hm; obtain ⟨q0, q1, q3, z0, z1, z3⟩ := zero_cells P2.out; obtain ⟨D2, D1⟩ := do_set (b := w.heap.size) 0 (.int .i64 r.1) r.1 0 [] P2.out P1.out rfl) | (refine wpList_load_row rfl 27 _ rfl (w.heap.size + 1 + 1) rfl 27 _ (0, 0) _ D2.out Try.underlying27 rfl (info24a _ _ _) ?_) | (refine wpList_store_row rfl 27 _ _ rfl (w.heap.size + 1) _ rfl rfl 27 _ D1.out (info24a _ _ _) rfl (ansC_all _ _ _) ?_))
  refine bodyPost_ret (results_cell_row rfl _ _ (w.heap.size + 1) 27 (ansC r.1 0 []) (0, 0) _ rfl (setRow_heap _ _ _ _ _ _ D1.out) Try.underlying27 rfl (info24a _ _ _)) rfl ?_
  exact ⟨rfl, (hm4.setAt (by omega) P2.out (by decide) (by decide) nStill24).setRow (by omega) D1.out (by decide) (by decide) nStill24⟩
set_option maxHeartbeats 1000000 in
theorem mdo_extra (a b c : Int) (S T : List UInt8) (h : MStk w s g vs) (r : Int × St) (hw : ∀ W, Below w.heap.size w W → Calls Try.prog 61 #[.pointer (some ⟨s, 0, none⟩), .int .i64 a] W fun e w' => e = .returned (.int .i64 r.1) ∧ MMoved W s g r.2 w') :
    Calls Try.prog 30 #[.pointer (some ⟨s, 0, none⟩), opV 12 a b c S T] w fun e w' => e = .returned (ansV r.1 0 []) ∧ MMoved w s g r.2 w' := by
  have HW := hide hw
  clear hw
  unfold opV
  obtain ⟨W3, HW3, hB, H1, H2⟩ := do_start w #[.int .i64 12, .int .i64 a, .int .i64 b, .int .i64 c, .string (str S), .string (str T)] 30
  have HD := hide (mdo_kept h hB H1.out H2.out)
  clear h
  go_enter Try.func30, Try.ntmps30
  go_wp2_with (first | (go_at_call 61; rw [← HW3.out]; refine (HW.out _ hB).mono ?_; rintro e W4 ⟨rfl, hm⟩; obtain ⟨hm4, P1, P2⟩ := HD.out W4 _ hm; obtain ⟨q0, q1, q3, z0, z1, z3⟩ := zero_cells P2.out; obtain ⟨D2, D1⟩ := do_set (b := w.heap.size) 0 (.int .i64 r.1) r.1 0 [] P2.out P1.out rfl) | (refine wpList_load_row rfl 27 _ rfl (w.heap.size + 1 + 1) rfl 27 _ (0, 0) _ D2.out Try.underlying27 rfl (info24a _ _ _) ?_) | (refine wpList_store_row rfl 27 _ _ rfl (w.heap.size + 1) _ rfl rfl 27 _ D1.out (info24a _ _ _) rfl (ansC_all _ _ _) ?_))
  refine bodyPost_ret (results_cell_row rfl _ _ (w.heap.size + 1) 27 (ansC r.1 0 []) (0, 0) _ rfl (setRow_heap _ _ _ _ _ _ D1.out) Try.underlying27 rfl (info24a _ _ _)) rfl ?_
  exact ⟨rfl, (hm4.setAt (by omega) P2.out (by decide) (by decide) nStill24).setRow (by omega) D1.out (by decide) (by decide) nStill24⟩
theorem mdepth_below {W : World} (h : MStk W s g vs) : Calls Try.prog 62 #[.pointer (some ⟨s, 0, none⟩)] W fun e w' => e = .returned (.int .i64 vs.length) ∧ Below W.heap.size W w' := by
  refine (mDepth h).mono ?_
  rintro e w' ⟨rfl, rfl⟩
  exact ⟨rfl, Below.refl _ _⟩
theorem mtopInt_below {W : World} (h : MStk W s g vs) (hok : Okay vs) : Calls Try.prog 60 #[.pointer (some ⟨s, 0, none⟩)] W fun e w' => e = .returned (.tuple #[.int .i64 (topIntF vs).1, .int .i64 (topIntF vs).2]) ∧ Below W.heap.size W w' := by
  refine (mTopInt h hok).mono ?_
  rintro e w' ⟨rfl, rfl⟩
  exact ⟨rfl, Below.refl _ _⟩
set_option maxHeartbeats 1000000 in
theorem mdo_depth (a b c : Int) (S T : List UInt8) (h : MStk w s g vs) (hok : Okay vs) :
    Calls Try.prog 30 #[.pointer (some ⟨s, 0, none⟩), opV 13 a b c S T] w fun e w' => e = .returned (ansV 0 vs.length []) ∧ MMoved w s g vs w' := by
  unfold opV
  obtain ⟨W3, HW3, hB, H1, H2⟩ := do_start w #[.int .i64 13, .int .i64 a, .int .i64 b, .int .i64 c, .string (str S), .string (str T)] 30
  have HD := hide (mdo_kept h hB H1.out H2.out)
  have HW := hide (mdepth_below (h.below hB))
  have HM : Hid (∀ W4, Below W3.heap.size W3 W4 → MMoved W3 s g vs W4) := fun W4 hb => MMoved.below (h.below hB) hb
  clear h
  go_enter Try.func30, Try.ntmps30
  go_wp2_with (first | (go_at_call 62; rw [← HW3.out]; refine HW.out.mono ?_; rintro e W4 ⟨rfl, hb4⟩; obtain ⟨hm4, P1, P2⟩ := HD.out W4 _ (HM.out W4 hb4); obtain ⟨q0, q1, q3, z0, z1, z3⟩ := zero_cells P2.out; obtain ⟨D2, D1⟩ := do_set (b := w.heap.size) 1 (.int .i64 vs.length) 0 vs.length [] P2.out P1.out rfl) | (refine wpList_load_row rfl 27 _ rfl (w.heap.size + 1 + 1) rfl 27 _ (0, 0) _ D2.out Try.underlying27 rfl (info24a _ _ _) ?_) | (refine wpList_store_row rfl 27 _ _ rfl (w.heap.size + 1) _ rfl rfl 27 _ D1.out (info24a _ _ _) rfl (ansC_all _ _ _) ?_))
  refine bodyPost_ret (results_cell_row rfl _ _ (w.heap.size + 1) 27 (ansC 0 vs.length []) (0, 0) _ rfl (setRow_heap _ _ _ _ _ _ D1.out) Try.underlying27 rfl (info24a _ _ _)) rfl ?_
  exact ⟨rfl, (hm4.setAt (by omega) P2.out (by decide) (by decide) nStill24).setRow (by omega) D1.out (by decide) (by decide) nStill24⟩
set_option maxHeartbeats 1000000 in
theorem mdo_show (a b c : Int) (S T : List UInt8) (h : MStk w s g vs) (hok : Okay vs) (hwf : ∀ v ∈ vs, Wf v) :
    Calls Try.prog 30 #[.pointer (some ⟨s, 0, none⟩), opV 14 a b c S T] w fun e w' => e = .returned (ansV 0 0 (showF vs)) ∧ MMoved w s g vs w' := by
  unfold opV
  obtain ⟨W3, HW3, hB, H1, H2⟩ := do_start w #[.int .i64 14, .int .i64 a, .int .i64 b, .int .i64 c, .string (str S), .string (str T)] 30
  have HD := hide (mdo_kept h hB H1.out H2.out)
  have HW := hide (mShow (h.below hB) hok hwf)
  have HM : Hid (∀ W4, Below W3.heap.size W3 W4 → MMoved W3 s g vs W4) := fun W4 hb => MMoved.below (h.below hB) hb
  clear h
  go_enter Try.func30, Try.ntmps30
  go_wp2_with (first | (go_at_call 34; rw [← HW3.out]; refine HW.out.mono ?_; rintro e W4 ⟨rfl, hb4⟩; obtain ⟨hm4, P1, P2⟩ := HD.out W4 _ (HM.out W4 hb4); obtain ⟨q0, q1, q3, z0, z1, z3⟩ := zero_cells P2.out; obtain ⟨D2, D1⟩ := do_set (b := w.heap.size) 3 (.string (str (showF vs))) 0 0 (showF vs) P2.out P1.out rfl) | (refine wpList_load_row rfl 27 _ rfl (w.heap.size + 1 + 1) rfl 27 _ (0, 0) _ D2.out Try.underlying27 rfl (info24a _ _ _) ?_) | (refine wpList_store_row rfl 27 _ _ rfl (w.heap.size + 1) _ rfl rfl 27 _ D1.out (info24a _ _ _) rfl (ansC_all _ _ _) ?_))
  refine bodyPost_ret (results_cell_row rfl _ _ (w.heap.size + 1) 27 (ansC 0 0 (showF vs)) (0, 0) _ rfl (setRow_heap _ _ _ _ _ _ D1.out) Try.underlying27 rfl (info24a _ _ _)) rfl ?_
  exact ⟨rfl, (hm4.setAt (by omega) P2.out (by decide) (by decide) nStill24).setRow (by omega) D1.out (by decide) (by decide) nStill24⟩
set_option maxHeartbeats 1000000 in
theorem mdo_check (a b c : Int) (S T : List UInt8) (h : MStk w s g vs) (hok : Okay vs) (hwf : ∀ v ∈ vs, Wf v) :
    Calls Try.prog 30 #[.pointer (some ⟨s, 0, none⟩), opV 15 a b c S T] w fun e w' => e = .returned (ansV 0 1 []) ∧ MMoved w s g vs w' := by
  unfold opV
  obtain ⟨W3, HW3, hB, H1, H2⟩ := do_start w #[.int .i64 15, .int .i64 a, .int .i64 b, .int .i64 c, .string (str S), .string (str T)] 30
  have HD := hide (mdo_kept h hB H1.out H2.out)
  have HW := hide (mCheck (h.below hB) hok hwf)
  have HM : Hid (∀ W4, Below W3.heap.size W3 W4 → MMoved W3 s g vs W4) := fun W4 hb => MMoved.below (h.below hB) hb
  clear h
  go_enter Try.func30, Try.ntmps30
  go_wp2_with (first | (go_at_call 36; rw [← HW3.out]; refine HW.out.mono ?_; rintro e W4 ⟨rfl, hb4⟩; obtain ⟨hm4, P1, P2⟩ := HD.out W4 _ (HM.out W4 hb4); obtain ⟨q0, q1, q3, z0, z1, z3⟩ := zero_cells P2.out; obtain ⟨D2, D1⟩ := do_set (b := w.heap.size) 1 (.int .i64 1) 0 1 [] P2.out P1.out rfl) | (refine wpList_load_row rfl 27 _ rfl (w.heap.size + 1 + 1) rfl 27 _ (0, 0) _ D2.out Try.underlying27 rfl (info24a _ _ _) ?_) | (refine wpList_store_row rfl 27 _ _ rfl (w.heap.size + 1) _ rfl rfl 27 _ D1.out (info24a _ _ _) rfl (ansC_all _ _ _) ?_))
  refine bodyPost_ret (results_cell_row rfl _ _ (w.heap.size + 1) 27 (ansC 0 1 []) (0, 0) _ rfl (setRow_heap _ _ _ _ _ _ D1.out) Try.underlying27 rfl (info24a _ _ _)) rfl ?_
  exact ⟨rfl, (hm4.setAt (by omega) P2.out (by decide) (by decide) nStill24).setRow (by omega) D1.out (by decide) (by decide) nStill24⟩
set_option maxHeartbeats 1000000 in
theorem mdo_topInt (a b c : Int) (S T : List UInt8) (h : MStk w s g vs) (hok : Okay vs) :
    Calls Try.prog 30 #[.pointer (some ⟨s, 0, none⟩), opV 11 a b c S T] w fun e w' => e = .returned (ansV (topIntF vs).2 (topIntF vs).1 []) ∧ MMoved w s g vs w' := by
  unfold opV
  obtain ⟨W3, HW3, hB, H1, H2⟩ := do_start w #[.int .i64 11, .int .i64 a, .int .i64 b, .int .i64 c, .string (str S), .string (str T)] 30
  have HD := hide (mdo_kept h hB H1.out H2.out)
  have HW := hide (mtopInt_below (h.below hB) hok)
  have HM : Hid (∀ W4, Below W3.heap.size W3 W4 → MMoved W3 s g vs W4) := fun W4 hb => MMoved.below (h.below hB) hb
  clear h
  generalize hT : topIntF vs = tt at *
  clear hT
  go_enter Try.func30, Try.ntmps30
  go_wp2_with (first | (go_at_call 60; rw [← HW3.out]; refine HW.out.mono ?_; rintro e W4 ⟨rfl, hb4⟩; obtain ⟨hm4, P1, P2⟩ := HD.out W4 _ (HM.out W4 hb4); obtain ⟨q0, q1, q3, z0, z1, z3⟩ := zero_cells P2.out; obtain ⟨E2, E1⟩ := do_set (b := w.heap.size) 1 (.int .i64 tt.1) 0 tt.1 [] P2.out P1.out rfl; obtain ⟨D2, D1⟩ := do_set (b := w.heap.size) 0 (.int .i64 tt.2) tt.2 tt.1 [] E2.out E1.out rfl) | (refine wpList_load_row rfl 27 _ rfl (w.heap.size + 1 + 1) rfl 27 _ (0, 0) _ D2.out Try.underlying27 rfl (info24a _ _ _) ?_) | (refine wpList_store_row rfl 27 _ _ rfl (w.heap.size + 1) _ rfl rfl 27 _ D1.out (info24a _ _ _) rfl (ansC_all _ _ _) ?_))
  refine bodyPost_ret (results_cell_row rfl _ _ (w.heap.size + 1) 27 (ansC tt.2 tt.1 []) (0, 0) _ rfl (setRow_heap _ _ _ _ _ _ D1.out) Try.underlying27 rfl (info24a _ _ _)) rfl ?_
  exact ⟨rfl, ((hm4.setAt (by omega) P2.out (by decide) (by decide) nStill24).setAt (by omega) E2.out (by decide) (by decide) nStill24).setRow (by omega) D1.out (by decide) (by decide) nStill24⟩
set_option maxHeartbeats 1000000 in
theorem mdo_none (k a b c : Int) (S T : List UInt8) (h : MStk w s g vs) (hk : k < 1 ∨ 15 < k) :
    Calls Try.prog 30 #[.pointer (some ⟨s, 0, none⟩), opV k a b c S T] w fun e w' => e = .returned (ansV 0 0 []) ∧ MMoved w s g vs w' := by
  unfold opV
  obtain ⟨W3, HW3, hB, H1, H2⟩ := do_start w #[.int .i64 k, .int .i64 a, .int .i64 b, .int .i64 c, .string (str S), .string (str T)] 30
  have D2 : Hid (W3.heap[w.heap.size + 1 + 1]? = some (.cells (ansC 0 0 []) 27 (0, 0))) := H2
  have D1 : Hid (W3.heap[w.heap.size + 1]? = some (.cells zero4 27 (0, 0))) := H1
  have hm4 := MMoved.below h hB
  have n1 : (k == 1) = false := beq_false_of_ne (by show k ≠ 1; omega)
  have n2 : (k == 2) = false := beq_false_of_ne (by show k ≠ 2; omega)
  have n3 : (k == 3) = false := beq_false_of_ne (by show k ≠ 3; omega)
  have n4 : (k == 4) = false := beq_false_of_ne (by show k ≠ 4; omega)
  have n5 : (k == 5) = false := beq_false_of_ne (by show k ≠ 5; omega)
  have n6 : (k == 6) = false := beq_false_of_ne (by show k ≠ 6; omega)
  have n7 : (k == 7) = false := beq_false_of_ne (by show k ≠ 7; omega)
  have n8 : (k == 8) = false := beq_false_of_ne (by show k ≠ 8; omega)
  have n9 : (k == 9) = false := beq_false_of_ne (by show k ≠ 9; omega)
  have n10 : (k == 10) = false := beq_false_of_ne (by show k ≠ 10; omega)
  have n11 : (k == 11) = false := beq_false_of_ne (by show k ≠ 11; omega)
  have n12 : (k == 12) = false := beq_false_of_ne (by show k ≠ 12; omega)
  have n13 : (k == 13) = false := beq_false_of_ne (by show k ≠ 13; omega)
  have n14 : (k == 14) = false := beq_false_of_ne (by show k ≠ 14; omega)
  have n15 : (k == 15) = false := beq_false_of_ne (by show k ≠ 15; omega)
  clear h hk
  go_enter Try.func30, Try.ntmps30
  go_wp2_with (first | (rw [← HW3.out]; refine wpList_load_row rfl 27 _ rfl (w.heap.size + 1 + 1) rfl 27 _ (0, 0) _ D2.out Try.underlying27 rfl (info24a _ _ _) ?_) | (refine wpList_store_row rfl 27 _ _ rfl (w.heap.size + 1) _ rfl rfl 27 _ D1.out (info24a _ _ _) rfl (ansC_all _ _ _) ?_))
  refine bodyPost_ret (results_cell_row rfl _ _ (w.heap.size + 1) 27 (ansC 0 0 []) (0, 0) _ rfl (setRow_heap _ _ _ _ _ _ D1.out) Try.underlying27 rfl (info24a _ _ _)) rfl ?_
  exact ⟨rfl, hm4.setRow (by omega) D1.out (by decide) (by decide) nStill24⟩
theorem mextra (h : MStk w s g vs) (hok : Okay vs) (hwf : ∀ v ∈ vs, Wf v) (k : Int) : MXWord w s g k (extraF k vs) := by
  by_cases k0 : k = 0
  · subst k0; exact mx_double h hok hwf
  · by_cases k2 : k = 2
    · subst k2; exact mx_spread h hok hwf
    · by_cases k3 : k = 3
      · subst k3; exact mx_echo h hok hwf
      · by_cases k4 : k = 4
        · subst k4; exact mx_quot h hok hwf
        · exact mx_none h k k0 k2 k3 k4
theorem doM_calls (h : MStk w s g vs) (hok : Okay vs) (hwf : ∀ v ∈ vs, Wf v) (k a b c : Int) (S T : List UInt8) (hb : I64 b) :
    Calls Try.prog 30 #[.pointer (some ⟨s, 0, none⟩), opV k a b c S T] w fun e w' => e = .returned (doF k a b S vs).1.v ∧ MMoved w s g (doF k a b S vs).2 w' := by
  by_cases hk : k < 1 ∨ 15 < k
  · have e : doF k a b S vs = (⟨0, 0, []⟩, vs) := by
      unfold doF
      repeat rw [if_neg (by omega)]
    rw [e]
    exact mdo_none k a b c S T h hk
  · obtain ⟨n, rfl⟩ : ∃ n : Nat, k = n := ⟨k.toNat, by omega⟩
    have hn : n = 1 ∨ n = 2 ∨ n = 3 ∨ n = 4 ∨ n = 5 ∨ n = 6 ∨ n = 7 ∨ n = 8 ∨ n = 9 ∨ n = 10 ∨ n = 11 ∨ n = 12 ∨ n = 13 ∨ n = 14 ∨ n = 15 := by omega
    rcases hn with rfl | rfl | rfl | rfl | rfl | rfl | rfl | rfl | rfl | rfl | rfl | rfl | rfl | rfl | rfl
    · exact mdo_push a b c S T h (pushF a b S vs) fun W hW => mPush (h.below hW) hok a b S hb
    · exact mdo_word2 h (consF vs) (fun W hW => mCons (h.below hW) hok hwf) a b c S T
    · exact mdo_word3 h (pairF vs) (fun W hW => mPair (h.below hW) hok hwf) a b c S T
    · exact mdo_word4 h (addF vs) (fun W hW => mAdd (h.below hW) hok hwf) a b c S T
    · exact mdo_word5 h (negF vs) (fun W hW => mNeg (h.below hW) hok hwf) a b c S T
    · exact mdo_word6 h (lenF vs) (fun W hW => mLen (h.below hW) hok hwf) a b c S T
    · exact mdo_word7 h (findF vs) (fun W hW => mFind (h.below hW) hok hwf) a b c S T
    · exact mdo_word8 h (foldF vs) (fun W hW => mFold (h.below hW) hok hwf) a b c S T
    · exact mdo_word9 h (dupF vs) (fun W hW => mDup (h.below hW) hok hwf) a b c S T
    · exact mdo_word10 h (dropF vs) (fun W hW => mDrop (h.below hW)) a b c S T
    · exact mdo_topInt a b c S T h hok
    · exact mdo_extra a b c S T h (extraF a vs) fun W hW => mextra (h.below hW) hok hwf a
    · exact mdo_depth a b c S T h hok
    · exact mdo_show a b c S T h hok hwf
    · exact mdo_check a b c S T h hok hwf
end
end Go.Proofs.Qxb6500606a
