/-
  EdgePanicThroughRange: the walk. (Written by wip/tpl/edges.py.)
-/
import Derived.Test.Qxb6500607aKit
namespace Go.Proofs.Qxb6500607a.edgePanicThroughRange
open Go.ChangeShapes Go.WideShapes Go.ChangeAt Go.RowKit Go.Shelf
set_option linter.unusedVariables false

def ops1 : List Step := [{ k := 1, a := 1, b := 1 }, { k := 1, a := 1, b := 2 }, { k := 3 }, { k := 9 }, { k := 9 }, { k := 9 }, { k := 9 }, { k := 12, a := 2 }]
theorem say1 (W : World) (B : Nat) (hB : B = W.heap.size) : Calls Try.prog 13 #[.slice (some ⟨B, 0, none⟩) 8 8] (W.alloc (.cells #[.int .i64 1, .int .i64 1, .int .i64 1, .int .i64 0, .string { data := #[] }, .string { data := #[] }, .int .i64 1, .int .i64 1, .int .i64 2, .int .i64 0, .string { data := #[] }, .string { data := #[] }, .int .i64 3, .int .i64 0, .int .i64 0, .int .i64 0, .string { data := #[] }, .string { data := #[] }, .int .i64 9, .int .i64 0, .int .i64 0, .int .i64 0, .string { data := #[] }, .string { data := #[] }, .int .i64 9, .int .i64 0, .int .i64 0, .int .i64 0, .string { data := #[] }, .string { data := #[] }, .int .i64 9, .int .i64 0, .int .i64 0, .int .i64 0, .string { data := #[] }, .string { data := #[] }, .int .i64 9, .int .i64 0, .int .i64 0, .int .i64 0, .string { data := #[] }, .string { data := #[] }, .int .i64 12, .int .i64 2, .int .i64 0, .int .i64 0, .string { data := #[] }, .string { data := #[] }] 27)) fun e w' => e = .returned (.agg #[.int .i64 3, .int .i64 0, .int .i64 0, .string { data := #[53, 32, 60, 49, 32, 50, 62, 32, 60, 49, 32, 50, 62, 32, 60, 49, 32, 50, 62, 32, 60, 49, 32, 50, 62, 32, 60, 49, 32, 50, 62] }]) ∧ Below (W.alloc (.cells #[.int .i64 1, .int .i64 1, .int .i64 1, .int .i64 0, .string { data := #[] }, .string { data := #[] }, .int .i64 1, .int .i64 1, .int .i64 2, .int .i64 0, .string { data := #[] }, .string { data := #[] }, .int .i64 3, .int .i64 0, .int .i64 0, .int .i64 0, .string { data := #[] }, .string { data := #[] }, .int .i64 9, .int .i64 0, .int .i64 0, .int .i64 0, .string { data := #[] }, .string { data := #[] }, .int .i64 9, .int .i64 0, .int .i64 0, .int .i64 0, .string { data := #[] }, .string { data := #[] }, .int .i64 9, .int .i64 0, .int .i64 0, .int .i64 0, .string { data := #[] }, .string { data := #[] }, .int .i64 9, .int .i64 0, .int .i64 0, .int .i64 0, .string { data := #[] }, .string { data := #[] }, .int .i64 12, .int .i64 2, .int .i64 0, .int .i64 0, .string { data := #[] }, .string { data := #[] }] 27)).heap.size (W.alloc (.cells #[.int .i64 1, .int .i64 1, .int .i64 1, .int .i64 0, .string { data := #[] }, .string { data := #[] }, .int .i64 1, .int .i64 1, .int .i64 2, .int .i64 0, .string { data := #[] }, .string { data := #[] }, .int .i64 3, .int .i64 0, .int .i64 0, .int .i64 0, .string { data := #[] }, .string { data := #[] }, .int .i64 9, .int .i64 0, .int .i64 0, .int .i64 0, .string { data := #[] }, .string { data := #[] }, .int .i64 9, .int .i64 0, .int .i64 0, .int .i64 0, .string { data := #[] }, .string { data := #[] }, .int .i64 9, .int .i64 0, .int .i64 0, .int .i64 0, .string { data := #[] }, .string { data := #[] }, .int .i64 9, .int .i64 0, .int .i64 0, .int .i64 0, .string { data := #[] }, .string { data := #[] }, .int .i64 12, .int .i64 2, .int .i64 0, .int .i64 0, .string { data := #[] }, .string { data := #[] }] 27)) w' :=
  say_at ops1 _ 8 ⟨3, 0, [53, 32, 60, 49, 32, 50, 62, 32, 60, 49, 32, 50, 62, 32, 60, 49, 32, 50, 62, 32, 60, 49, 32, 50, 62, 32, 60, 49, 32, 50, 62]⟩ rfl rfl (by decide) (by kernel_rfl) (by kernel_rfl) W B hB
set_option maxHeartbeats 2000000 in
theorem walk0 (w : World) : Calls Try.prog 8 #[] w fun e w' => e = .returned (.bool true) ∧ Below w.heap.size w w' := by
  go_enter Try.func8, Try.ntmps8
  go_wp2_with fail
  refine (say1 _ _ (by simp)).mono ?_
  rintro e w1 ⟨rfl, hb1⟩
  have G1 := below_carry1 (Below.refl _ w) hb1
  go_wp2_with (first | (refine wpList_load_row_want (by rfl) 24 _ rfl _ rfl _ _ _ _ (heap_alloc_new _ _) Try.underlying24 rfl info24 ?_))
  go_ret
  exact ⟨rfl, below_alloc G1⟩
end Go.Proofs.Qxb6500607a.edgePanicThroughRange
