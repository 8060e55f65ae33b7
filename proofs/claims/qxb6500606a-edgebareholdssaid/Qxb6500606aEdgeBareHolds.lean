/-
  EdgeBareHolds: the walk. (Written by wip/tpl/edges.py.)
-/
import Derived.Test.Qxb6500606aKit
namespace Go.Proofs.Qxb6500606a.edgeBareHolds
open Go.ChangeShapes Go.WideShapes Go.ChangeAt Go.RowKit Go.Shelf
set_option linter.unusedVariables false

def ops1 : List Step := [{ k := 1, a := 1, b := 1 }, { k := 1, a := 1, b := 2 }, { k := 3 }, { k := 8 }]
theorem say1 (W : World) (B : Nat) (hB : B = W.heap.size) : Calls Try.prog 18 #[.slice (some ⟨B, 0, none⟩) 4 4] (W.alloc (.cells #[.int .i64 1, .int .i64 1, .int .i64 1, .int .i64 0, .string { data := #[] }, .string { data := #[] }, .int .i64 1, .int .i64 1, .int .i64 2, .int .i64 0, .string { data := #[] }, .string { data := #[] }, .int .i64 3, .int .i64 0, .int .i64 0, .int .i64 0, .string { data := #[] }, .string { data := #[] }, .int .i64 8, .int .i64 0, .int .i64 0, .int .i64 0, .string { data := #[] }, .string { data := #[] }] 30)) fun e w' => e = .returned (.agg #[.int .i64 0, .int .i64 0, .int .i64 0, .string { data := #[49, 32, 51] }]) ∧ Below (W.alloc (.cells #[.int .i64 1, .int .i64 1, .int .i64 1, .int .i64 0, .string { data := #[] }, .string { data := #[] }, .int .i64 1, .int .i64 1, .int .i64 2, .int .i64 0, .string { data := #[] }, .string { data := #[] }, .int .i64 3, .int .i64 0, .int .i64 0, .int .i64 0, .string { data := #[] }, .string { data := #[] }, .int .i64 8, .int .i64 0, .int .i64 0, .int .i64 0, .string { data := #[] }, .string { data := #[] }] 30)).heap.size (W.alloc (.cells #[.int .i64 1, .int .i64 1, .int .i64 1, .int .i64 0, .string { data := #[] }, .string { data := #[] }, .int .i64 1, .int .i64 1, .int .i64 2, .int .i64 0, .string { data := #[] }, .string { data := #[] }, .int .i64 3, .int .i64 0, .int .i64 0, .int .i64 0, .string { data := #[] }, .string { data := #[] }, .int .i64 8, .int .i64 0, .int .i64 0, .int .i64 0, .string { data := #[] }, .string { data := #[] }] 30)) w' :=
  say_at ops1 _ 4 ⟨0, 0, [49, 32, 51]⟩ rfl rfl (by decide) (by kernel_rfl) (by kernel_rfl) W B hB
def ops2 : List Step := [{ k := 1, a := 3 }, { k := 1, a := 1, b := 5 }, { k := 2 }, { k := 8 }]
theorem say2 (W : World) (B : Nat) (hB : B = W.heap.size) : Calls Try.prog 18 #[.slice (some ⟨B, 0, none⟩) 4 4] (W.alloc (.cells #[.int .i64 1, .int .i64 3, .int .i64 0, .int .i64 0, .string { data := #[] }, .string { data := #[] }, .int .i64 1, .int .i64 1, .int .i64 5, .int .i64 0, .string { data := #[] }, .string { data := #[] }, .int .i64 2, .int .i64 0, .int .i64 0, .int .i64 0, .string { data := #[] }, .string { data := #[] }, .int .i64 8, .int .i64 0, .int .i64 0, .int .i64 0, .string { data := #[] }, .string { data := #[] }] 30)) fun e w' => e = .returned (.agg #[.int .i64 0, .int .i64 0, .int .i64 0, .string { data := #[49, 32, 53] }]) ∧ Below (W.alloc (.cells #[.int .i64 1, .int .i64 3, .int .i64 0, .int .i64 0, .string { data := #[] }, .string { data := #[] }, .int .i64 1, .int .i64 1, .int .i64 5, .int .i64 0, .string { data := #[] }, .string { data := #[] }, .int .i64 2, .int .i64 0, .int .i64 0, .int .i64 0, .string { data := #[] }, .string { data := #[] }, .int .i64 8, .int .i64 0, .int .i64 0, .int .i64 0, .string { data := #[] }, .string { data := #[] }] 30)).heap.size (W.alloc (.cells #[.int .i64 1, .int .i64 3, .int .i64 0, .int .i64 0, .string { data := #[] }, .string { data := #[] }, .int .i64 1, .int .i64 1, .int .i64 5, .int .i64 0, .string { data := #[] }, .string { data := #[] }, .int .i64 2, .int .i64 0, .int .i64 0, .int .i64 0, .string { data := #[] }, .string { data := #[] }, .int .i64 8, .int .i64 0, .int .i64 0, .int .i64 0, .string { data := #[] }, .string { data := #[] }] 30)) w' :=
  say_at ops2 _ 4 ⟨0, 0, [49, 32, 53]⟩ rfl rfl (by decide) (by kernel_rfl) (by kernel_rfl) W B hB
set_option maxHeartbeats 2000000 in
theorem walk0 (w : World) : Calls Try.prog 10 #[] w fun e w' => e = .returned (.bool true) ∧ Below w.heap.size w w' := by
  go_enter Try.func10, Try.ntmps10
  go_wp2_with fail
  refine (say1 _ _ (by simp)).mono ?_
  rintro e w1 ⟨rfl, hb1⟩
  have G1 := below_carry1 (Below.refl _ w) hb1
  go_wp2_with fail
  refine (say2 _ _ (by simp)).mono ?_
  rintro e w2 ⟨rfl, hb2⟩
  have G2 := below_carry2 G1 hb2
  have A1_2 := hide (fresh2 hb2)
  clear hb2 G1 
  go_wp2_with (first | (refine wpList_load_row_want (by rfl) 27 _ rfl _ rfl _ _ _ _ (heap_before A1_2.out) Try.underlying27 rfl info24 ?_) | (refine wpList_load_row_want (by rfl) 27 _ rfl _ rfl _ _ _ _ (heap_alloc_new _ _) Try.underlying27 rfl info24 ?_))
  go_ret
  exact ⟨rfl, below_alloc G2⟩
end Go.Proofs.Qxb6500606a.edgeBareHolds
