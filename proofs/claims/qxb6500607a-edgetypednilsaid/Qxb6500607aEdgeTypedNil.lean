/-
  EdgeTypedNil: the walk. (Written by wip/tpl/edges.py.)
-/
import Derived.Test.Qxb6500607aKit
namespace Go.Proofs.Qxb6500607a.edgeTypedNil
open Go.ChangeShapes Go.WideShapes Go.ChangeAt Go.RowKit Go.Shelf
set_option linter.unusedVariables false

def ops1 : List Step := [{ k := 1, a := 3 }, { k := 13 }]
theorem say1 (W : World) (B : Nat) (hB : B = W.heap.size) : Calls Try.prog 13 #[.slice (some ⟨B, 0, none⟩) 2 2] (W.alloc (.cells #[.int .i64 1, .int .i64 3, .int .i64 0, .int .i64 0, .string { data := #[] }, .string { data := #[] }, .int .i64 13, .int .i64 0, .int .i64 0, .int .i64 0, .string { data := #[] }, .string { data := #[] }] 27)) fun e w' => e = .returned (.agg #[.int .i64 0, .int .i64 1, .int .i64 0, .string { data := #[49, 32, 91, 93] }]) ∧ Below (W.alloc (.cells #[.int .i64 1, .int .i64 3, .int .i64 0, .int .i64 0, .string { data := #[] }, .string { data := #[] }, .int .i64 13, .int .i64 0, .int .i64 0, .int .i64 0, .string { data := #[] }, .string { data := #[] }] 27)).heap.size (W.alloc (.cells #[.int .i64 1, .int .i64 3, .int .i64 0, .int .i64 0, .string { data := #[] }, .string { data := #[] }, .int .i64 13, .int .i64 0, .int .i64 0, .int .i64 0, .string { data := #[] }, .string { data := #[] }] 27)) w' :=
  say_at ops1 _ 2 ⟨0, 1, [49, 32, 91, 93]⟩ rfl rfl (by decide) (by kernel_rfl) (by kernel_rfl) W B hB
def ops2 : List Step := [{ k := 1, a := 3 }, { k := 6 }]
theorem say2 (W : World) (B : Nat) (hB : B = W.heap.size) : Calls Try.prog 13 #[.slice (some ⟨B, 0, none⟩) 2 2] (W.alloc (.cells #[.int .i64 1, .int .i64 3, .int .i64 0, .int .i64 0, .string { data := #[] }, .string { data := #[] }, .int .i64 6, .int .i64 0, .int .i64 0, .int .i64 0, .string { data := #[] }, .string { data := #[] }] 27)) fun e w' => e = .returned (.agg #[.int .i64 0, .int .i64 0, .int .i64 0, .string { data := #[49, 32, 48] }]) ∧ Below (W.alloc (.cells #[.int .i64 1, .int .i64 3, .int .i64 0, .int .i64 0, .string { data := #[] }, .string { data := #[] }, .int .i64 6, .int .i64 0, .int .i64 0, .int .i64 0, .string { data := #[] }, .string { data := #[] }] 27)).heap.size (W.alloc (.cells #[.int .i64 1, .int .i64 3, .int .i64 0, .int .i64 0, .string { data := #[] }, .string { data := #[] }, .int .i64 6, .int .i64 0, .int .i64 0, .int .i64 0, .string { data := #[] }, .string { data := #[] }] 27)) w' :=
  say_at ops2 _ 2 ⟨0, 0, [49, 32, 48]⟩ rfl rfl (by decide) (by kernel_rfl) (by kernel_rfl) W B hB
def ops3 : List Step := [{ k := 1, a := 3 }, { k := 8 }]
theorem say3 (W : World) (B : Nat) (hB : B = W.heap.size) : Calls Try.prog 13 #[.slice (some ⟨B, 0, none⟩) 2 2] (W.alloc (.cells #[.int .i64 1, .int .i64 3, .int .i64 0, .int .i64 0, .string { data := #[] }, .string { data := #[] }, .int .i64 8, .int .i64 0, .int .i64 0, .int .i64 0, .string { data := #[] }, .string { data := #[] }] 27)) fun e w' => e = .returned (.agg #[.int .i64 8, .int .i64 0, .int .i64 0, .string { data := #[49, 32, 91, 93] }]) ∧ Below (W.alloc (.cells #[.int .i64 1, .int .i64 3, .int .i64 0, .int .i64 0, .string { data := #[] }, .string { data := #[] }, .int .i64 8, .int .i64 0, .int .i64 0, .int .i64 0, .string { data := #[] }, .string { data := #[] }] 27)).heap.size (W.alloc (.cells #[.int .i64 1, .int .i64 3, .int .i64 0, .int .i64 0, .string { data := #[] }, .string { data := #[] }, .int .i64 8, .int .i64 0, .int .i64 0, .int .i64 0, .string { data := #[] }, .string { data := #[] }] 27)) w' :=
  say_at ops3 _ 2 ⟨8, 0, [49, 32, 91, 93]⟩ rfl rfl (by decide) (by kernel_rfl) (by kernel_rfl) W B hB
def ops4 : List Step := [{ k := 1, a := 3 }, { k := 1, a := 1, b := 1 }, { k := 7 }]
theorem say4 (W : World) (B : Nat) (hB : B = W.heap.size) : Calls Try.prog 13 #[.slice (some ⟨B, 0, none⟩) 3 3] (W.alloc (.cells #[.int .i64 1, .int .i64 3, .int .i64 0, .int .i64 0, .string { data := #[] }, .string { data := #[] }, .int .i64 1, .int .i64 1, .int .i64 1, .int .i64 0, .string { data := #[] }, .string { data := #[] }, .int .i64 7, .int .i64 0, .int .i64 0, .int .i64 0, .string { data := #[] }, .string { data := #[] }] 27)) fun e w' => e = .returned (.agg #[.int .i64 0, .int .i64 0, .int .i64 0, .string { data := #[49, 32, 45, 49] }]) ∧ Below (W.alloc (.cells #[.int .i64 1, .int .i64 3, .int .i64 0, .int .i64 0, .string { data := #[] }, .string { data := #[] }, .int .i64 1, .int .i64 1, .int .i64 1, .int .i64 0, .string { data := #[] }, .string { data := #[] }, .int .i64 7, .int .i64 0, .int .i64 0, .int .i64 0, .string { data := #[] }, .string { data := #[] }] 27)).heap.size (W.alloc (.cells #[.int .i64 1, .int .i64 3, .int .i64 0, .int .i64 0, .string { data := #[] }, .string { data := #[] }, .int .i64 1, .int .i64 1, .int .i64 1, .int .i64 0, .string { data := #[] }, .string { data := #[] }, .int .i64 7, .int .i64 0, .int .i64 0, .int .i64 0, .string { data := #[] }, .string { data := #[] }] 27)) w' :=
  say_at ops4 _ 3 ⟨0, 0, [49, 32, 45, 49]⟩ rfl rfl (by decide) (by kernel_rfl) (by kernel_rfl) W B hB
def ops5 : List Step := [{ k := 1, a := 3 }, { k := 12, a := 2 }]
theorem say5 (W : World) (B : Nat) (hB : B = W.heap.size) : Calls Try.prog 13 #[.slice (some ⟨B, 0, none⟩) 2 2] (W.alloc (.cells #[.int .i64 1, .int .i64 3, .int .i64 0, .int .i64 0, .string { data := #[] }, .string { data := #[] }, .int .i64 12, .int .i64 2, .int .i64 0, .int .i64 0, .string { data := #[] }, .string { data := #[] }] 27)) fun e w' => e = .returned (.agg #[.int .i64 0, .int .i64 0, .int .i64 0, .string { data := #[48] }]) ∧ Below (W.alloc (.cells #[.int .i64 1, .int .i64 3, .int .i64 0, .int .i64 0, .string { data := #[] }, .string { data := #[] }, .int .i64 12, .int .i64 2, .int .i64 0, .int .i64 0, .string { data := #[] }, .string { data := #[] }] 27)).heap.size (W.alloc (.cells #[.int .i64 1, .int .i64 3, .int .i64 0, .int .i64 0, .string { data := #[] }, .string { data := #[] }, .int .i64 12, .int .i64 2, .int .i64 0, .int .i64 0, .string { data := #[] }, .string { data := #[] }] 27)) w' :=
  say_at ops5 _ 2 ⟨0, 0, [48]⟩ rfl rfl (by decide) (by kernel_rfl) (by kernel_rfl) W B hB
def ops6 : List Step := [{ k := 1, a := 3 }, { k := 1, a := 3 }, { k := 4 }]
theorem say6 (W : World) (B : Nat) (hB : B = W.heap.size) : Calls Try.prog 13 #[.slice (some ⟨B, 0, none⟩) 3 3] (W.alloc (.cells #[.int .i64 1, .int .i64 3, .int .i64 0, .int .i64 0, .string { data := #[] }, .string { data := #[] }, .int .i64 1, .int .i64 3, .int .i64 0, .int .i64 0, .string { data := #[] }, .string { data := #[] }, .int .i64 4, .int .i64 0, .int .i64 0, .int .i64 0, .string { data := #[] }, .string { data := #[] }] 27)) fun e w' => e = .returned (.agg #[.int .i64 0, .int .i64 0, .int .i64 0, .string { data := #[49, 32, 91, 93] }]) ∧ Below (W.alloc (.cells #[.int .i64 1, .int .i64 3, .int .i64 0, .int .i64 0, .string { data := #[] }, .string { data := #[] }, .int .i64 1, .int .i64 3, .int .i64 0, .int .i64 0, .string { data := #[] }, .string { data := #[] }, .int .i64 4, .int .i64 0, .int .i64 0, .int .i64 0, .string { data := #[] }, .string { data := #[] }] 27)).heap.size (W.alloc (.cells #[.int .i64 1, .int .i64 3, .int .i64 0, .int .i64 0, .string { data := #[] }, .string { data := #[] }, .int .i64 1, .int .i64 3, .int .i64 0, .int .i64 0, .string { data := #[] }, .string { data := #[] }, .int .i64 4, .int .i64 0, .int .i64 0, .int .i64 0, .string { data := #[] }, .string { data := #[] }] 27)) w' :=
  say_at ops6 _ 3 ⟨0, 0, [49, 32, 91, 93]⟩ rfl rfl (by decide) (by kernel_rfl) (by kernel_rfl) W B hB
def ops7 : List Step := [{ k := 1, a := 3 }, { k := 5 }]
theorem say7 (W : World) (B : Nat) (hB : B = W.heap.size) : Calls Try.prog 13 #[.slice (some ⟨B, 0, none⟩) 2 2] (W.alloc (.cells #[.int .i64 1, .int .i64 3, .int .i64 0, .int .i64 0, .string { data := #[] }, .string { data := #[] }, .int .i64 5, .int .i64 0, .int .i64 0, .int .i64 0, .string { data := #[] }, .string { data := #[] }] 27)) fun e w' => e = .returned (.agg #[.int .i64 5, .int .i64 0, .int .i64 0, .string { data := #[49, 32, 91, 93] }]) ∧ Below (W.alloc (.cells #[.int .i64 1, .int .i64 3, .int .i64 0, .int .i64 0, .string { data := #[] }, .string { data := #[] }, .int .i64 5, .int .i64 0, .int .i64 0, .int .i64 0, .string { data := #[] }, .string { data := #[] }] 27)).heap.size (W.alloc (.cells #[.int .i64 1, .int .i64 3, .int .i64 0, .int .i64 0, .string { data := #[] }, .string { data := #[] }, .int .i64 5, .int .i64 0, .int .i64 0, .int .i64 0, .string { data := #[] }, .string { data := #[] }] 27)) w' :=
  say_at ops7 _ 2 ⟨5, 0, [49, 32, 91, 93]⟩ rfl rfl (by decide) (by kernel_rfl) (by kernel_rfl) W B hB
set_option maxHeartbeats 2000000 in
theorem walk0 (w : World) : Calls Try.prog 3 #[] w fun e w' => e = .returned (.bool true) ∧ Below w.heap.size w w' := by
  go_enter Try.func3, Try.ntmps3
  go_wp2_with fail
  refine (say1 _ _ (by simp)).mono ?_
  rintro e w1 ⟨rfl, hb1⟩
  have G1 := below_carry1 (Below.refl _ w) hb1
  go_wp2_with fail
  refine (say2 _ _ (by simp)).mono ?_
  rintro e w2 ⟨rfl, hb2⟩
  have G2 := below_carry2 G1 hb2
  have A1_2 := hide (fresh2 hb2)
  clear hb2 G1 
  go_wp2_with fail
  refine (say3 _ _ (by simp)).mono ?_
  rintro e w3 ⟨rfl, hb3⟩
  have G3 := below_carry2 G2 hb3
  have A2_3 := hide (fresh2 hb3)
  have A1_3 := hide (carry2 A1_2.out hb3)
  clear hb3 G2 A1_2
  go_wp2_with fail
  refine (say4 _ _ (by simp)).mono ?_
  rintro e w4 ⟨rfl, hb4⟩
  have G4 := below_carry2 G3 hb4
  have A3_4 := hide (fresh2 hb4)
  have A1_4 := hide (carry2 A1_3.out hb4)
  have A2_4 := hide (carry2 A2_3.out hb4)
  clear hb4 G3 A1_3 A2_3
  go_wp2_with fail
  refine (say5 _ _ (by simp)).mono ?_
  rintro e w5 ⟨rfl, hb5⟩
  have G5 := below_carry2 G4 hb5
  have A4_5 := hide (fresh2 hb5)
  have A1_5 := hide (carry2 A1_4.out hb5)
  have A2_5 := hide (carry2 A2_4.out hb5)
  have A3_5 := hide (carry2 A3_4.out hb5)
  clear hb5 G4 A1_4 A2_4 A3_4
  go_wp2_with fail
  refine (say6 _ _ (by simp)).mono ?_
  rintro e w6 ⟨rfl, hb6⟩
  have G6 := below_carry2 G5 hb6
  have A5_6 := hide (fresh2 hb6)
  have A1_6 := hide (carry2 A1_5.out hb6)
  have A2_6 := hide (carry2 A2_5.out hb6)
  have A3_6 := hide (carry2 A3_5.out hb6)
  have A4_6 := hide (carry2 A4_5.out hb6)
  clear hb6 G5 A1_5 A2_5 A3_5 A4_5
  go_wp2_with fail
  refine (say7 _ _ (by simp)).mono ?_
  rintro e w7 ⟨rfl, hb7⟩
  have G7 := below_carry2 G6 hb7
  have A6_7 := hide (fresh2 hb7)
  have A1_7 := hide (carry2 A1_6.out hb7)
  have A2_7 := hide (carry2 A2_6.out hb7)
  have A3_7 := hide (carry2 A3_6.out hb7)
  have A4_7 := hide (carry2 A4_6.out hb7)
  have A5_7 := hide (carry2 A5_6.out hb7)
  clear hb7 G6 A1_6 A2_6 A3_6 A4_6 A5_6
  go_wp2_with (first | (refine wpList_load_row_want (by rfl) 24 _ rfl _ rfl _ _ _ _ (heap_before A1_7.out) Try.underlying24 rfl info24 ?_) | (refine wpList_load_row_want (by rfl) 24 _ rfl _ rfl _ _ _ _ (heap_before A2_7.out) Try.underlying24 rfl info24 ?_) | (refine wpList_load_row_want (by rfl) 24 _ rfl _ rfl _ _ _ _ (heap_before A3_7.out) Try.underlying24 rfl info24 ?_) | (refine wpList_load_row_want (by rfl) 24 _ rfl _ rfl _ _ _ _ (heap_before A4_7.out) Try.underlying24 rfl info24 ?_) | (refine wpList_load_row_want (by rfl) 24 _ rfl _ rfl _ _ _ _ (heap_before A5_7.out) Try.underlying24 rfl info24 ?_) | (refine wpList_load_row_want (by rfl) 24 _ rfl _ rfl _ _ _ _ (heap_before A6_7.out) Try.underlying24 rfl info24 ?_) | (refine wpList_load_row_want (by rfl) 24 _ rfl _ rfl _ _ _ _ (heap_alloc_new _ _) Try.underlying24 rfl info24 ?_))
  go_ret
  exact ⟨rfl, below_alloc G7⟩
end Go.Proofs.Qxb6500607a.edgeTypedNil
