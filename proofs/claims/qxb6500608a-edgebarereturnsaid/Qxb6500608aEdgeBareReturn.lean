/-
  EdgeBareReturn: the walk. (Written by wip/tpl/edges.py.)
-/
import Derived.Test.Qxb6500608aKit
namespace Go.Proofs.Qxb6500608a.edgeBareReturn
open Go.ChangeShapes Go.WideShapes Go.ChangeAt Go.RowKit Go.Shelf
set_option linter.unusedVariables false

def ops1 : List Step := [{ k := 1, a := 1, b := 4 }, { k := 12 }]
theorem say1 (W : World) (B : Nat) (hB : B = W.heap.size) : Calls Try.prog 13 #[.slice (some ⟨B, 0, none⟩) 2 2] (W.alloc (.cells #[.int .i64 1, .int .i64 1, .int .i64 4, .int .i64 0, .string { data := #[] }, .string { data := #[] }, .int .i64 12, .int .i64 0, .int .i64 0, .int .i64 0, .string { data := #[] }, .string { data := #[] }] 27)) fun e w' => e = .returned (.agg #[.int .i64 0, .int .i64 0, .int .i64 0, .string { data := #[49, 32, 56] }]) ∧ Below (W.alloc (.cells #[.int .i64 1, .int .i64 1, .int .i64 4, .int .i64 0, .string { data := #[] }, .string { data := #[] }, .int .i64 12, .int .i64 0, .int .i64 0, .int .i64 0, .string { data := #[] }, .string { data := #[] }] 27)).heap.size (W.alloc (.cells #[.int .i64 1, .int .i64 1, .int .i64 4, .int .i64 0, .string { data := #[] }, .string { data := #[] }, .int .i64 12, .int .i64 0, .int .i64 0, .int .i64 0, .string { data := #[] }, .string { data := #[] }] 27)) w' :=
  say_at ops1 _ 2 ⟨0, 0, [49, 32, 56]⟩ rfl rfl (by decide) (by kernel_rfl) (by kernel_rfl) W B hB
def ops2 : List Step := [{ k := 1, a := 1, b := 1 }, { k := 1, a := 1, b := 2 }, { k := 3 }, { k := 12, a := 2 }]
theorem say2 (W : World) (B : Nat) (hB : B = W.heap.size) : Calls Try.prog 13 #[.slice (some ⟨B, 0, none⟩) 4 4] (W.alloc (.cells #[.int .i64 1, .int .i64 1, .int .i64 1, .int .i64 0, .string { data := #[] }, .string { data := #[] }, .int .i64 1, .int .i64 1, .int .i64 2, .int .i64 0, .string { data := #[] }, .string { data := #[] }, .int .i64 3, .int .i64 0, .int .i64 0, .int .i64 0, .string { data := #[] }, .string { data := #[] }, .int .i64 12, .int .i64 2, .int .i64 0, .int .i64 0, .string { data := #[] }, .string { data := #[] }] 27)) fun e w' => e = .returned (.agg #[.int .i64 0, .int .i64 0, .int .i64 0, .string { data := #[50, 32, 49, 32, 50] }]) ∧ Below (W.alloc (.cells #[.int .i64 1, .int .i64 1, .int .i64 1, .int .i64 0, .string { data := #[] }, .string { data := #[] }, .int .i64 1, .int .i64 1, .int .i64 2, .int .i64 0, .string { data := #[] }, .string { data := #[] }, .int .i64 3, .int .i64 0, .int .i64 0, .int .i64 0, .string { data := #[] }, .string { data := #[] }, .int .i64 12, .int .i64 2, .int .i64 0, .int .i64 0, .string { data := #[] }, .string { data := #[] }] 27)).heap.size (W.alloc (.cells #[.int .i64 1, .int .i64 1, .int .i64 1, .int .i64 0, .string { data := #[] }, .string { data := #[] }, .int .i64 1, .int .i64 1, .int .i64 2, .int .i64 0, .string { data := #[] }, .string { data := #[] }, .int .i64 3, .int .i64 0, .int .i64 0, .int .i64 0, .string { data := #[] }, .string { data := #[] }, .int .i64 12, .int .i64 2, .int .i64 0, .int .i64 0, .string { data := #[] }, .string { data := #[] }] 27)) w' :=
  say_at ops2 _ 4 ⟨0, 0, [50, 32, 49, 32, 50]⟩ rfl rfl (by decide) (by kernel_rfl) (by kernel_rfl) W B hB
def ops3 : List Step := [{ k := 1, a := 1, b := 4 }, { k := 12, a := 2 }]
theorem say3 (W : World) (B : Nat) (hB : B = W.heap.size) : Calls Try.prog 13 #[.slice (some ⟨B, 0, none⟩) 2 2] (W.alloc (.cells #[.int .i64 1, .int .i64 1, .int .i64 4, .int .i64 0, .string { data := #[] }, .string { data := #[] }, .int .i64 12, .int .i64 2, .int .i64 0, .int .i64 0, .string { data := #[] }, .string { data := #[] }] 27)) fun e w' => e = .returned (.agg #[.int .i64 5, .int .i64 0, .int .i64 0, .string { data := #[49, 32, 52] }]) ∧ Below (W.alloc (.cells #[.int .i64 1, .int .i64 1, .int .i64 4, .int .i64 0, .string { data := #[] }, .string { data := #[] }, .int .i64 12, .int .i64 2, .int .i64 0, .int .i64 0, .string { data := #[] }, .string { data := #[] }] 27)).heap.size (W.alloc (.cells #[.int .i64 1, .int .i64 1, .int .i64 4, .int .i64 0, .string { data := #[] }, .string { data := #[] }, .int .i64 12, .int .i64 2, .int .i64 0, .int .i64 0, .string { data := #[] }, .string { data := #[] }] 27)) w' :=
  say_at ops3 _ 2 ⟨5, 0, [49, 32, 52]⟩ rfl rfl (by decide) (by kernel_rfl) (by kernel_rfl) W B hB
set_option maxHeartbeats 2000000 in
theorem walk0 (w : World) : Calls Try.prog 6 #[] w fun e w' => e = .returned (.bool true) ∧ Below w.heap.size w w' := by
  go_enter Try.func6, Try.ntmps6
  go_wp2_with fail
  refine (say1 _ _ (by simp)).mono ?_
  rintro e w1 ⟨rfl, hb1⟩
  have G1 := below_carry1 (Below.refl _ w) hb1
  go_wp2_with fail
  refine (say2 _ _ (by simp)).mono ?_
  rintro e w2 ⟨rfl, hb2⟩
  have G2 := below_carry2 G1 hb2
  have A1_2 := hide (fresh2 hb2)
  clear hb2 G1 
  go_wp2_with fail
  refine (say3 _ _ (by simp)).mono ?_
  rintro e w3 ⟨rfl, hb3⟩
  have G3 := below_carry2 G2 hb3
  have A2_3 := hide (fresh2 hb3)
  have A1_3 := hide (carry2 A1_2.out hb3)
  clear hb3 G2 A1_2
  go_wp2_with (first | (refine wpList_load_row_want (by rfl) 24 _ rfl _ rfl _ _ _ _ (heap_before A1_3.out) Try.underlying24 rfl info24 ?_) | (refine wpList_load_row_want (by rfl) 24 _ rfl _ rfl _ _ _ _ (heap_before A2_3.out) Try.underlying24 rfl info24 ?_) | (refine wpList_load_row_want (by rfl) 24 _ rfl _ rfl _ _ _ _ (heap_alloc_new _ _) Try.underlying24 rfl info24 ?_))
  go_ret
  exact ⟨rfl, below_alloc G3⟩
end Go.Proofs.Qxb6500608a.edgeBareReturn
