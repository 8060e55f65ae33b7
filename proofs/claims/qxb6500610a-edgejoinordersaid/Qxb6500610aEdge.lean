import Derived.Test.Qxb6500610aFold
namespace Go.Proofs.Qxb6500610a
open Go.ChangeShapes Go.WideShapes Go.ChangeAt Go.RowKit

theorem heap_carry {w w2 : World} {o x : Obj} {B : Nat} (h : w.heap[B]? = some x) (hb : Below (w.alloc o).heap.size (w.alloc o) w2) : w2.heap[B]? = some x := by
  have hB : B < w.heap.size := by
    by_cases hlt : B < w.heap.size
    · exact hlt
    · have hn : w.heap[B]? = none := by simp; omega
      rw [hn] at h; cases h
  exact (hb.block B (by simp; omega)).trans ((heap_alloc_old w o hB).trans h)
theorem heap_fresh {w w2 : World} {o : Obj} (hb : Below (w.alloc o).heap.size (w.alloc o) w2) : w2.heap[w.heap.size]? = some o :=
  (hb.block w.heap.size (by simp)).trans (heap_alloc_new w o)
theorem heap_before {w : World} {o x : Obj} {B : Nat} (h : w.heap[B]? = some x) : (w.alloc o).heap[B]? = some x := by
  have hB : B < w.heap.size := by
    by_cases hlt : B < w.heap.size
    · exact hlt
    · have hn : w.heap[B]? = none := by simp; omega
      rw [hn] at h; cases h
  exact (heap_alloc_old w o hB).trans h
theorem below_carry {W w w2 : World} {o : Obj} (h : Below W.heap.size W w) (hb : Below (w.alloc o).heap.size (w.alloc o) w2) : Below W.heap.size W w2 :=
  (h.alloc h.size o).trans (hb.mono (by have := h.size; simp; omega))
theorem wpList_load_row_want {P : Program} {ops : Array Oper} {rest : List Oper} {o : Oper} {a : Act} {w : World} {Q : Exit → Act → World → Prop} (hgd : Region.wanted o (yielded ops a.tmps) = true) (ty : TypeId) (x : Operand) (ho : o.op = .load ty x)
    (g : Nat) (hx : a.eval x = .pointer (some ⟨g, 0, none⟩)) (t : TypeId) (cs : Array Value) (fr : Nat × Nat) (d : TypeDesc) (hg : w.heap[g]? = some (.cells cs t fr))
    (hu : P.underlying ty = some d) (hd : (match d with | .struct _ | .array _ _ => true | _ => false) = true) (hi : (P.info? ty).map (·.size) = some cs.size)
    (h : wpList P ops Q rest (a.put o.dst (.agg cs)) w) : wpList P ops Q (o :: rest) a w :=
  BigFrame.wpList_want hgd fun _ hK => wp_load_row ty x ho g hx t cs fr d hg hu hd hi (hK _ _ h)

theorem named_at (w : World) : Calls Try.prog 12 #[] w fun e w' => e = .returned (.agg #[.int .i64 3, .int .i64 (-5), .int .i64 4, .int .i64 4, .int .i64 (-1), .int .i64 2, .int .i64 (-7), .int .i64 6, .int .i64 6, .int .i64 (-2), .int .i64 5, .int .i64 (-9), .int .i64 1, .int .i64 0, .int .i64 8, .int .i64 (-4)]) ∧ Below w.heap.size w w' :=
  (named_any w).mono (by rintro e w' ⟨rfl, c, rfl⟩; exact ⟨rfl, (Below.refl _ _).alloc (Nat.le_refl _) _⟩)

theorem fold_a (w : World) : Calls Try.prog 13 #[.agg #[.int .i64 3, .int .i64 (-5), .int .i64 4, .int .i64 4, .int .i64 (-1), .int .i64 2, .int .i64 (-7), .int .i64 6, .int .i64 6, .int .i64 (-2), .int .i64 5, .int .i64 (-9), .int .i64 1, .int .i64 0, .int .i64 8, .int .i64 (-4)], .int .i64 0, .int .i64 1] w fun e w' => e = .returned (.agg #[.int .i64 1, .int .i64 3, .int .i64 3, .int .i64 3, .int .i64 3, .int .i64 3, .int .i64 3, .int .i64 1]) ∧ Below w.heap.size w w' :=
  (fold_any 0 1 w (by omega) (by omega)).mono (by rintro e w' ⟨rfl, h⟩; exact ⟨by rw [show foldTo rowsL 0 (1 - 0) = (⟨1, 3, 3, 3, 3, 3, 3, 1⟩ : S8) from by kernel_rfl]; rfl, h⟩)
theorem fold_b (w : World) : Calls Try.prog 13 #[.agg #[.int .i64 3, .int .i64 (-5), .int .i64 4, .int .i64 4, .int .i64 (-1), .int .i64 2, .int .i64 (-7), .int .i64 6, .int .i64 6, .int .i64 (-2), .int .i64 5, .int .i64 (-9), .int .i64 1, .int .i64 0, .int .i64 8, .int .i64 (-4)], .int .i64 1, .int .i64 3] w fun e w' => e = .returned (.agg #[.int .i64 2, .int .i64 (-1), .int .i64 (-1), .int .i64 4, .int .i64 4, .int .i64 (-5), .int .i64 4, .int .i64 1]) ∧ Below w.heap.size w w' :=
  (fold_any 1 3 w (by omega) (by omega)).mono (by rintro e w' ⟨rfl, h⟩; exact ⟨by rw [show foldTo rowsL 1 (3 - 1) = (⟨2, -1, -1, 4, 4, -5, 4, 1⟩ : S8) from by kernel_rfl]; rfl, h⟩)
theorem fold_c (w : World) : Calls Try.prog 13 #[.agg #[.int .i64 3, .int .i64 (-5), .int .i64 4, .int .i64 4, .int .i64 (-1), .int .i64 2, .int .i64 (-7), .int .i64 6, .int .i64 6, .int .i64 (-2), .int .i64 5, .int .i64 (-9), .int .i64 1, .int .i64 0, .int .i64 8, .int .i64 (-4)], .int .i64 3, .int .i64 7] w fun e w' => e = .returned (.agg #[.int .i64 4, .int .i64 (-2), .int .i64 5, .int .i64 (-2), .int .i64 5, .int .i64 4, .int .i64 (-7), .int .i64 3]) ∧ Below w.heap.size w w' :=
  (fold_any 3 7 w (by omega) (by omega)).mono (by rintro e w' ⟨rfl, h⟩; exact ⟨by rw [show foldTo rowsL 3 (7 - 3) = (⟨4, -2, 5, -2, 5, 4, -7, 3⟩ : S8) from by kernel_rfl]; rfl, h⟩)
theorem fold_all (w : World) : Calls Try.prog 13 #[.agg #[.int .i64 3, .int .i64 (-5), .int .i64 4, .int .i64 4, .int .i64 (-1), .int .i64 2, .int .i64 (-7), .int .i64 6, .int .i64 6, .int .i64 (-2), .int .i64 5, .int .i64 (-9), .int .i64 1, .int .i64 0, .int .i64 8, .int .i64 (-4)], .int .i64 0, .int .i64 7] w fun e w' => e = .returned (.agg #[.int .i64 7, .int .i64 0, .int .i64 7, .int .i64 2, .int .i64 9, .int .i64 3, .int .i64 (-7), .int .i64 4]) ∧ Below w.heap.size w w' :=
  (fold_any 0 7 w (by omega) (by omega)).mono (by rintro e w' ⟨rfl, h⟩; exact ⟨by rw [show foldTo rowsL 0 (7 - 0) = (⟨7, 0, 7, 2, 9, 3, -7, 4⟩ : S8) from by kernel_rfl]; rfl, h⟩)
theorem join_ab (w : World) : Calls Try.prog 14 #[.agg #[.int .i64 1, .int .i64 3, .int .i64 3, .int .i64 3, .int .i64 3, .int .i64 3, .int .i64 3, .int .i64 1], .agg #[.int .i64 2, .int .i64 (-1), .int .i64 (-1), .int .i64 4, .int .i64 4, .int .i64 (-5), .int .i64 4, .int .i64 1]] w fun e w' => e = .returned (.agg #[.int .i64 3, .int .i64 2, .int .i64 3, .int .i64 4, .int .i64 4, .int .i64 3, .int .i64 4, .int .i64 2]) ∧ Below w.heap.size w w' :=
  (join_calls (⟨1, 3, 3, 3, 3, 3, 3, 1⟩ : S8) (⟨2, -1, -1, 4, 4, -5, 4, 1⟩ : S8) w).mono (by rintro e w' ⟨rfl, h⟩; exact ⟨by rw [show joinF (⟨1, 3, 3, 3, 3, 3, 3, 1⟩ : S8) (⟨2, -1, -1, 4, 4, -5, 4, 1⟩ : S8) = (⟨3, 2, 3, 4, 4, 3, 4, 2⟩ : S8) from by kernel_rfl]; rfl, h⟩)
theorem join_ba (w : World) : Calls Try.prog 14 #[.agg #[.int .i64 2, .int .i64 (-1), .int .i64 (-1), .int .i64 4, .int .i64 4, .int .i64 (-5), .int .i64 4, .int .i64 1], .agg #[.int .i64 1, .int .i64 3, .int .i64 3, .int .i64 3, .int .i64 3, .int .i64 3, .int .i64 3, .int .i64 1]] w fun e w' => e = .returned (.agg #[.int .i64 3, .int .i64 2, .int .i64 2, .int .i64 7, .int .i64 7, .int .i64 (-5), .int .i64 3, .int .i64 2]) ∧ Below w.heap.size w w' :=
  (join_calls (⟨2, -1, -1, 4, 4, -5, 4, 1⟩ : S8) (⟨1, 3, 3, 3, 3, 3, 3, 1⟩ : S8) w).mono (by rintro e w' ⟨rfl, h⟩; exact ⟨by rw [show joinF (⟨2, -1, -1, 4, 4, -5, 4, 1⟩ : S8) (⟨1, 3, 3, 3, 3, 3, 3, 1⟩ : S8) = (⟨3, 2, 2, 7, 7, -5, 3, 2⟩ : S8) from by kernel_rfl]; rfl, h⟩)
theorem join_bc (w : World) : Calls Try.prog 14 #[.agg #[.int .i64 2, .int .i64 (-1), .int .i64 (-1), .int .i64 4, .int .i64 4, .int .i64 (-5), .int .i64 4, .int .i64 1], .agg #[.int .i64 4, .int .i64 (-2), .int .i64 5, .int .i64 (-2), .int .i64 5, .int .i64 4, .int .i64 (-7), .int .i64 3]] w fun e w' => e = .returned (.agg #[.int .i64 6, .int .i64 (-3), .int .i64 4, .int .i64 2, .int .i64 9, .int .i64 (-5), .int .i64 (-7), .int .i64 3]) ∧ Below w.heap.size w w' :=
  (join_calls (⟨2, -1, -1, 4, 4, -5, 4, 1⟩ : S8) (⟨4, -2, 5, -2, 5, 4, -7, 3⟩ : S8) w).mono (by rintro e w' ⟨rfl, h⟩; exact ⟨by rw [show joinF (⟨2, -1, -1, 4, 4, -5, 4, 1⟩ : S8) (⟨4, -2, 5, -2, 5, 4, -7, 3⟩ : S8) = (⟨6, -3, 4, 2, 9, -5, -7, 3⟩ : S8) from by kernel_rfl]; rfl, h⟩)
theorem join_l (w : World) : Calls Try.prog 14 #[.agg #[.int .i64 3, .int .i64 2, .int .i64 3, .int .i64 4, .int .i64 4, .int .i64 3, .int .i64 4, .int .i64 2], .agg #[.int .i64 4, .int .i64 (-2), .int .i64 5, .int .i64 (-2), .int .i64 5, .int .i64 4, .int .i64 (-7), .int .i64 3]] w fun e w' => e = .returned (.agg #[.int .i64 7, .int .i64 0, .int .i64 7, .int .i64 2, .int .i64 9, .int .i64 3, .int .i64 (-7), .int .i64 4]) ∧ Below w.heap.size w w' :=
  (join_calls (⟨3, 2, 3, 4, 4, 3, 4, 2⟩ : S8) (⟨4, -2, 5, -2, 5, 4, -7, 3⟩ : S8) w).mono (by rintro e w' ⟨rfl, h⟩; exact ⟨by rw [show joinF (⟨3, 2, 3, 4, 4, 3, 4, 2⟩ : S8) (⟨4, -2, 5, -2, 5, 4, -7, 3⟩ : S8) = (⟨7, 0, 7, 2, 9, 3, -7, 4⟩ : S8) from by kernel_rfl]; rfl, h⟩)
theorem join_r (w : World) : Calls Try.prog 14 #[.agg #[.int .i64 1, .int .i64 3, .int .i64 3, .int .i64 3, .int .i64 3, .int .i64 3, .int .i64 3, .int .i64 1], .agg #[.int .i64 6, .int .i64 (-3), .int .i64 4, .int .i64 2, .int .i64 9, .int .i64 (-5), .int .i64 (-7), .int .i64 3]] w fun e w' => e = .returned (.agg #[.int .i64 7, .int .i64 0, .int .i64 7, .int .i64 2, .int .i64 9, .int .i64 3, .int .i64 (-7), .int .i64 4]) ∧ Below w.heap.size w w' :=
  (join_calls (⟨1, 3, 3, 3, 3, 3, 3, 1⟩ : S8) (⟨6, -3, 4, 2, 9, -5, -7, 3⟩ : S8) w).mono (by rintro e w' ⟨rfl, h⟩; exact ⟨by rw [show joinF (⟨1, 3, 3, 3, 3, 3, 3, 1⟩ : S8) (⟨6, -3, 4, 2, 9, -5, -7, 3⟩ : S8) = (⟨7, 0, 7, 2, 9, 3, -7, 4⟩ : S8) from by kernel_rfl]; rfl, h⟩)
theorem join_za (w : World) : Calls Try.prog 14 #[.agg #[.int .i64 0, .int .i64 0, .int .i64 0, .int .i64 0, .int .i64 0, .int .i64 0, .int .i64 0, .int .i64 0], .agg #[.int .i64 1, .int .i64 3, .int .i64 3, .int .i64 3, .int .i64 3, .int .i64 3, .int .i64 3, .int .i64 1]] w fun e w' => e = .returned (.agg #[.int .i64 1, .int .i64 3, .int .i64 3, .int .i64 3, .int .i64 3, .int .i64 3, .int .i64 3, .int .i64 1]) ∧ Below w.heap.size w w' :=
  (join_calls (⟨0, 0, 0, 0, 0, 0, 0, 0⟩ : S8) (⟨1, 3, 3, 3, 3, 3, 3, 1⟩ : S8) w).mono (by rintro e w' ⟨rfl, h⟩; exact ⟨by rw [show joinF (⟨0, 0, 0, 0, 0, 0, 0, 0⟩ : S8) (⟨1, 3, 3, 3, 3, 3, 3, 1⟩ : S8) = (⟨1, 3, 3, 3, 3, 3, 3, 1⟩ : S8) from by kernel_rfl]; rfl, h⟩)
theorem join_az (w : World) : Calls Try.prog 14 #[.agg #[.int .i64 1, .int .i64 3, .int .i64 3, .int .i64 3, .int .i64 3, .int .i64 3, .int .i64 3, .int .i64 1], .agg #[.int .i64 0, .int .i64 0, .int .i64 0, .int .i64 0, .int .i64 0, .int .i64 0, .int .i64 0, .int .i64 0]] w fun e w' => e = .returned (.agg #[.int .i64 1, .int .i64 3, .int .i64 3, .int .i64 3, .int .i64 3, .int .i64 3, .int .i64 3, .int .i64 1]) ∧ Below w.heap.size w w' :=
  (join_calls (⟨1, 3, 3, 3, 3, 3, 3, 1⟩ : S8) (⟨0, 0, 0, 0, 0, 0, 0, 0⟩ : S8) w).mono (by rintro e w' ⟨rfl, h⟩; exact ⟨by rw [show joinF (⟨1, 3, 3, 3, 3, 3, 3, 1⟩ : S8) (⟨0, 0, 0, 0, 0, 0, 0, 0⟩ : S8) = (⟨1, 3, 3, 3, 3, 3, 3, 1⟩ : S8) from by kernel_rfl]; rfl, h⟩)

set_option maxHeartbeats 4000000 in
set_option maxRecDepth 100000 in
theorem walk (w : World) :
    Calls Try.prog 5 #[] w fun e w' => e = .returned (.bool true) ∧ Below w.heap.size w w' := by
  go_enter Try.func5, Try.ntmps5
  go_wp2_with fail
  -- R
  refine (named_at _).mono ?_
  rintro e w0 ⟨rfl, hb0⟩
  have G0 := hb0
  clear hb0
  go_wp2_with (first | (refine wpList_load_row rfl 30 _ rfl _ rfl _ _ _ _ (heap_alloc_new _ _) Try.underlying30 rfl (by kernel_rfl) ?_))
  -- a
  refine (fold_a _).mono ?_
  rintro e w1 ⟨rfl, hb1⟩
  have HR1 : Hid _ := heap_fresh hb1
  have G1 := below_carry G0 hb1
  clear hb1 G0 
  go_wp2_with (first | (refine wpList_load_row rfl 30 _ rfl _ rfl _ _ _ _ (heap_before HR1.out) Try.underlying30 rfl (by kernel_rfl) ?_))
  -- b
  refine (fold_b _).mono ?_
  rintro e w2 ⟨rfl, hb2⟩
  have HR2 : Hid _ := heap_carry HR1.out hb2
  have Ha2 : Hid _ := heap_fresh hb2
  have G2 := below_carry G1 hb2
  clear hb2 G1 HR1
  go_wp2_with (first | (refine wpList_load_row rfl 30 _ rfl _ rfl _ _ _ _ (heap_before HR2.out) Try.underlying30 rfl (by kernel_rfl) ?_))
  -- c
  refine (fold_c _).mono ?_
  rintro e w3 ⟨rfl, hb3⟩
  have HR3 : Hid _ := heap_carry HR2.out hb3
  have Ha3 : Hid _ := heap_carry Ha2.out hb3
  have Hb3 : Hid _ := heap_fresh hb3
  have G3 := below_carry G2 hb3
  clear hb3 G2 HR2 Ha2
  go_wp2_with (first | (refine wpList_load_row rfl 27 _ rfl _ rfl _ _ _ _ (heap_before Ha3.out) Try.underlying27 rfl (by kernel_rfl) ?_) | (refine wpList_load_row rfl 27 _ rfl _ rfl _ _ _ _ (heap_before Hb3.out) Try.underlying27 rfl (by kernel_rfl) ?_))
  -- ab
  refine (join_ab _).mono ?_
  rintro e w4 ⟨rfl, hb4⟩
  have HR4 : Hid _ := heap_carry HR3.out hb4
  have Ha4 : Hid _ := heap_carry Ha3.out hb4
  have Hb4 : Hid _ := heap_carry Hb3.out hb4
  have Hc4 : Hid _ := heap_fresh hb4
  have G4 := below_carry G3 hb4
  clear hb4 G3 HR3 Ha3 Hb3
  go_wp2_with (first | (refine wpList_load_row rfl 27 _ rfl _ rfl _ _ _ _ (heap_before Hb4.out) Try.underlying27 rfl (by kernel_rfl) ?_) | (refine wpList_load_row rfl 27 _ rfl _ rfl _ _ _ _ (heap_before Ha4.out) Try.underlying27 rfl (by kernel_rfl) ?_))
  -- ba
  refine (join_ba _).mono ?_
  rintro e w5 ⟨rfl, hb5⟩
  have HR5 : Hid _ := heap_carry HR4.out hb5
  have Ha5 : Hid _ := heap_carry Ha4.out hb5
  have Hb5 : Hid _ := heap_carry Hb4.out hb5
  have Hc5 : Hid _ := heap_carry Hc4.out hb5
  have Hab5 : Hid _ := heap_fresh hb5
  have G5 := below_carry G4 hb5
  clear hb5 G4 HR4 Ha4 Hb4 Hc4
  go_wp2_with (first | (refine wpList_load_row rfl 27 _ rfl _ rfl _ _ _ _ (heap_before Hb5.out) Try.underlying27 rfl (by kernel_rfl) ?_) | (refine wpList_load_row rfl 27 _ rfl _ rfl _ _ _ _ (heap_before Hc5.out) Try.underlying27 rfl (by kernel_rfl) ?_))
  -- bc
  refine (join_bc _).mono ?_
  rintro e w6 ⟨rfl, hb6⟩
  have HR6 : Hid _ := heap_carry HR5.out hb6
  have Ha6 : Hid _ := heap_carry Ha5.out hb6
  have Hb6 : Hid _ := heap_carry Hb5.out hb6
  have Hc6 : Hid _ := heap_carry Hc5.out hb6
  have Hab6 : Hid _ := heap_carry Hab5.out hb6
  have Hba6 : Hid _ := heap_fresh hb6
  have G6 := below_carry G5 hb6
  clear hb6 G5 HR5 Ha5 Hb5 Hc5 Hab5
  go_wp2_with (first | (refine wpList_load_row rfl 27 _ rfl _ rfl _ _ _ _ (heap_before Hab6.out) Try.underlying27 rfl (by kernel_rfl) ?_) | (refine wpList_load_row rfl 27 _ rfl _ rfl _ _ _ _ (heap_before Hc6.out) Try.underlying27 rfl (by kernel_rfl) ?_))
  -- l
  refine (join_l _).mono ?_
  rintro e w7 ⟨rfl, hb7⟩
  have HR7 : Hid _ := heap_carry HR6.out hb7
  have Ha7 : Hid _ := heap_carry Ha6.out hb7
  have Hb7 : Hid _ := heap_carry Hb6.out hb7
  have Hc7 : Hid _ := heap_carry Hc6.out hb7
  have Hab7 : Hid _ := heap_carry Hab6.out hb7
  have Hba7 : Hid _ := heap_carry Hba6.out hb7
  have Hbc7 : Hid _ := heap_fresh hb7
  have G7 := below_carry G6 hb7
  clear hb7 G6 HR6 Ha6 Hb6 Hc6 Hab6 Hba6
  go_wp2_with (first | (refine wpList_load_row rfl 27 _ rfl _ rfl _ _ _ _ (heap_before Ha7.out) Try.underlying27 rfl (by kernel_rfl) ?_) | (refine wpList_load_row rfl 27 _ rfl _ rfl _ _ _ _ (heap_before Hbc7.out) Try.underlying27 rfl (by kernel_rfl) ?_))
  -- r
  refine (join_r _).mono ?_
  rintro e w8 ⟨rfl, hb8⟩
  have HR8 : Hid _ := heap_carry HR7.out hb8
  have Ha8 : Hid _ := heap_carry Ha7.out hb8
  have Hb8 : Hid _ := heap_carry Hb7.out hb8
  have Hc8 : Hid _ := heap_carry Hc7.out hb8
  have Hab8 : Hid _ := heap_carry Hab7.out hb8
  have Hba8 : Hid _ := heap_carry Hba7.out hb8
  have Hbc8 : Hid _ := heap_carry Hbc7.out hb8
  have Hl8 : Hid _ := heap_fresh hb8
  have G8 := below_carry G7 hb8
  clear hb8 G7 HR7 Ha7 Hb7 Hc7 Hab7 Hba7 Hbc7
  go_wp2_with (first | (refine wpList_load_row rfl 30 _ rfl _ rfl _ _ _ _ (heap_before HR8.out) Try.underlying30 rfl (by kernel_rfl) ?_))
  -- all
  refine (fold_all _).mono ?_
  rintro e w9 ⟨rfl, hb9⟩
  have HR9 : Hid _ := heap_carry HR8.out hb9
  have Ha9 : Hid _ := heap_carry Ha8.out hb9
  have Hb9 : Hid _ := heap_carry Hb8.out hb9
  have Hc9 : Hid _ := heap_carry Hc8.out hb9
  have Hab9 : Hid _ := heap_carry Hab8.out hb9
  have Hba9 : Hid _ := heap_carry Hba8.out hb9
  have Hbc9 : Hid _ := heap_carry Hbc8.out hb9
  have Hl9 : Hid _ := heap_carry Hl8.out hb9
  have Hr9 : Hid _ := heap_fresh hb9
  have G9 := below_carry G8 hb9
  clear hb9 G8 HR8 Ha8 Hb8 Hc8 Hab8 Hba8 Hbc8 Hl8
  go_wp2_with (first | (refine wpList_load_row rfl 27 _ rfl _ rfl _ _ _ _ (heap_before Ha9.out) Try.underlying27 rfl (by kernel_rfl) ?_))
  -- za
  refine (join_za _).mono ?_
  rintro e w10 ⟨rfl, hb10⟩
  have HR10 : Hid _ := heap_carry HR9.out hb10
  have Ha10 : Hid _ := heap_carry Ha9.out hb10
  have Hb10 : Hid _ := heap_carry Hb9.out hb10
  have Hc10 : Hid _ := heap_carry Hc9.out hb10
  have Hab10 : Hid _ := heap_carry Hab9.out hb10
  have Hba10 : Hid _ := heap_carry Hba9.out hb10
  have Hbc10 : Hid _ := heap_carry Hbc9.out hb10
  have Hl10 : Hid _ := heap_carry Hl9.out hb10
  have Hr10 : Hid _ := heap_carry Hr9.out hb10
  have Hall10 : Hid _ := heap_fresh hb10
  have G10 := below_carry G9 hb10
  clear hb10 G9 HR9 Ha9 Hb9 Hc9 Hab9 Hba9 Hbc9 Hl9 Hr9
  go_wp2_with (first | (refine wpList_load_row rfl 27 _ rfl _ rfl _ _ _ _ (heap_before Ha10.out) Try.underlying27 rfl (by kernel_rfl) ?_))
  -- az
  refine (join_az _).mono ?_
  rintro e w11 ⟨rfl, hb11⟩
  have HR11 : Hid _ := heap_carry HR10.out hb11
  have Ha11 : Hid _ := heap_carry Ha10.out hb11
  have Hb11 : Hid _ := heap_carry Hb10.out hb11
  have Hc11 : Hid _ := heap_carry Hc10.out hb11
  have Hab11 : Hid _ := heap_carry Hab10.out hb11
  have Hba11 : Hid _ := heap_carry Hba10.out hb11
  have Hbc11 : Hid _ := heap_carry Hbc10.out hb11
  have Hl11 : Hid _ := heap_carry Hl10.out hb11
  have Hr11 : Hid _ := heap_carry Hr10.out hb11
  have Hall11 : Hid _ := heap_carry Hall10.out hb11
  have Hza11 : Hid _ := heap_fresh hb11
  have G11 := below_carry G10 hb11
  clear hb11 G10 HR10 Ha10 Hb10 Hc10 Hab10 Hba10 Hbc10 Hl10 Hr10 Hall10
  go_wp2_with (first | (refine wpList_load_row_want (by rfl) 27 _ rfl _ rfl _ _ _ _ (heap_before Hab11.out) Try.underlying27 rfl (by kernel_rfl) ?_) | (refine wpList_load_row_want (by rfl) 27 _ rfl _ rfl _ _ _ _ (heap_before Hba11.out) Try.underlying27 rfl (by kernel_rfl) ?_) | (refine wpList_load_row_want (by rfl) 27 _ rfl _ rfl _ _ _ _ (heap_before Hl11.out) Try.underlying27 rfl (by kernel_rfl) ?_) | (refine wpList_load_row_want (by rfl) 27 _ rfl _ rfl _ _ _ _ (heap_before Hr11.out) Try.underlying27 rfl (by kernel_rfl) ?_) | (refine wpList_load_row_want (by rfl) 27 _ rfl _ rfl _ _ _ _ (heap_before Hall11.out) Try.underlying27 rfl (by kernel_rfl) ?_) | (refine wpList_load_row_want (by rfl) 27 _ rfl _ rfl _ _ _ _ (heap_before Hza11.out) Try.underlying27 rfl (by kernel_rfl) ?_) | (refine wpList_load_row_want (by rfl) 27 _ rfl _ rfl _ _ _ _ (heap_before Ha11.out) Try.underlying27 rfl (by kernel_rfl) ?_) | (refine wpList_load_row_want (by rfl) 27 _ rfl _ rfl _ _ _ _ (heap_alloc_new _ _) Try.underlying27 rfl (by kernel_rfl) ?_))
  go_ret
  exact ⟨rfl, G11.alloc G11.size _⟩
end Go.Proofs.Qxb6500610a
