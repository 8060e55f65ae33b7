/-
  EdgeBrim: the walk. (Written by wip/tpl/edges.py.)
-/
import Derived.Test.Qxb6500608aKit2
namespace Go.Proofs.Qxb6500608a.edgeBrim
open Go.ChangeShapes Go.WideShapes Go.ChangeAt Go.RowKit Go.Shelf
set_option linter.unusedVariables false

def ops2 : List Step := [{ k := 1, a := 2, s := [120, 120, 120, 120, 120, 120] }, { k := 12 }, { k := 12 }, { k := 1, a := 2, s := [97, 98, 99] }, { k := 4 }]
def st2 : St := (saysF ops2 []).2
theorem go2 {w0 W : World} {x : Nat} (h : Live w0 W x []) (hG : Below w0.heap.size w0 W) (B : Nat) (hB : B = W.heap.size) : Calls Try.prog 15 #[.pointer (some ⟨x, 0, none⟩), .slice (some ⟨B, 0, none⟩) 5 5] (W.alloc (.cells #[.int .i64 1, .int .i64 2, .int .i64 0, .int .i64 0, .string { data := #[120, 120, 120, 120, 120, 120] }, .string { data := #[] }, .int .i64 12, .int .i64 0, .int .i64 0, .int .i64 0, .string { data := #[] }, .string { data := #[] }, .int .i64 12, .int .i64 0, .int .i64 0, .int .i64 0, .string { data := #[] }, .string { data := #[] }, .int .i64 1, .int .i64 2, .int .i64 0, .int .i64 0, .string { data := #[97, 98, 99] }, .string { data := #[] }, .int .i64 4, .int .i64 0, .int .i64 0, .int .i64 0, .string { data := #[] }, .string { data := #[] }] 27)) fun e w' => e = .returned (.agg #[.int .i64 0, .int .i64 0, .int .i64 0, .string { data := #[49, 32, 50, 55, 58, 120, 120, 120, 120, 120, 120, 120, 120, 120, 120, 120, 120, 120, 120, 120, 120, 120, 120, 120, 120, 120, 120, 120, 120, 97, 98, 99] }]) ∧ Live w0 w' x st2 ∧ Below w0.heap.size w0 w' ∧ Keep24 W w' :=
  go_at ops2 _ 5 ⟨0, 0, [49, 32, 50, 55, 58, 120, 120, 120, 120, 120, 120, 120, 120, 120, 120, 120, 120, 120, 120, 120, 120, 120, 120, 120, 120, 120, 120, 120, 120, 97, 98, 99]⟩ [] rfl rfl (by decide) (by kernel_rfl) (by kernel_rfl) (by kernel_rfl) h hG B hB
def ops3 : List Step := [{ k := 1, a := 2, s := [121] }, { k := 4 }]
def st3 : St := (saysF ops3 st2).2
theorem go3 {w0 W : World} {x : Nat} (h : Live w0 W x st2) (hG : Below w0.heap.size w0 W) (B : Nat) (hB : B = W.heap.size) : Calls Try.prog 15 #[.pointer (some ⟨x, 0, none⟩), .slice (some ⟨B, 0, none⟩) 2 2] (W.alloc (.cells #[.int .i64 1, .int .i64 2, .int .i64 0, .int .i64 0, .string { data := #[121] }, .string { data := #[] }, .int .i64 4, .int .i64 0, .int .i64 0, .int .i64 0, .string { data := #[] }, .string { data := #[] }] 27)) fun e w' => e = .returned (.agg #[.int .i64 7, .int .i64 0, .int .i64 0, .string { data := #[50, 32, 50, 55, 58, 120, 120, 120, 120, 120, 120, 120, 120, 120, 120, 120, 120, 120, 120, 120, 120, 120, 120, 120, 120, 120, 120, 120, 120, 97, 98, 99, 32, 49, 58, 121] }]) ∧ Live w0 w' x st3 ∧ Below w0.heap.size w0 w' ∧ Keep24 W w' :=
  go_at ops3 _ 2 ⟨7, 0, [50, 32, 50, 55, 58, 120, 120, 120, 120, 120, 120, 120, 120, 120, 120, 120, 120, 120, 120, 120, 120, 120, 120, 120, 120, 120, 120, 120, 120, 97, 98, 99, 32, 49, 58, 121]⟩ st2 rfl rfl (by decide) (by kernel_rfl) (by kernel_rfl) (by kernel_rfl) h hG B hB
def ops4 : List Step := [{ k := 1, a := 1, b := 9 }, { k := 9 }, { k := 9 }, { k := 1, a := 1, b := 1 }, { k := 1, a := 1, b := 2 }, { k := 3 }, { k := 12, a := 2 }]
theorem say4 (W : World) (B : Nat) (hB : B = W.heap.size) : Calls Try.prog 13 #[.slice (some ⟨B, 0, none⟩) 7 7] (W.alloc (.cells #[.int .i64 1, .int .i64 1, .int .i64 9, .int .i64 0, .string { data := #[] }, .string { data := #[] }, .int .i64 9, .int .i64 0, .int .i64 0, .int .i64 0, .string { data := #[] }, .string { data := #[] }, .int .i64 9, .int .i64 0, .int .i64 0, .int .i64 0, .string { data := #[] }, .string { data := #[] }, .int .i64 1, .int .i64 1, .int .i64 1, .int .i64 0, .string { data := #[] }, .string { data := #[] }, .int .i64 1, .int .i64 1, .int .i64 2, .int .i64 0, .string { data := #[] }, .string { data := #[] }, .int .i64 3, .int .i64 0, .int .i64 0, .int .i64 0, .string { data := #[] }, .string { data := #[] }, .int .i64 12, .int .i64 2, .int .i64 0, .int .i64 0, .string { data := #[] }, .string { data := #[] }] 27)) fun e w' => e = .returned (.agg #[.int .i64 0, .int .i64 0, .int .i64 0, .string { data := #[53, 32, 57, 32, 57, 32, 57, 32, 49, 32, 50] }]) ∧ Below W.heap.size W w' :=
  say2_at ops4 _ 7 ⟨0, 0, [53, 32, 57, 32, 57, 32, 57, 32, 49, 32, 50]⟩ rfl rfl (by decide) (by kernel_rfl) (by kernel_rfl) W B hB
set_option maxHeartbeats 4000000 in
theorem walk0 (w : World) : Calls Try.prog 5 #[] w fun e w' => e = .returned (.bool true) ∧ Below w.heap.size w w' := by
  have G0 := Below.refl w.heap.size w
  go_enter Try.func5, Try.ntmps5
  go_wp2_with fail
  refine (new_at G0).mono ?_
  rintro e w1 ⟨x, rfl, hL, G1, hK⟩
  have L1 := hide hL
  clear hL
  clear G0 hK
  go_wp2_with fail
  refine (go2 L1.out G1 _ (by simp)).mono ?_
  rintro e w2 ⟨rfl, hL, G2, hK⟩
  have L2 := hide hL
  clear hL
  clear G1 hK L1
  go_wp2_with fail
  refine (go3 (L2.out.alloc _) (below_alloc G2) _ (by simp)).mono ?_
  rintro e w3 ⟨rfl, hL, G3, hK⟩
  have L3 := hide hL
  clear hL
  have A2_3 := hide (hK _ _ (heap_alloc_new _ _))
  clear G2 hK L2
  go_wp2_with fail
  refine (say4 _ _ (by simp)).mono ?_
  rintro e w4 ⟨rfl, hb⟩
  have G4 := (below_alloc G3).trans (hb.mono (below_alloc G3).size)
  have hK := Keep24.of_below hb
  have L4 := hide ((L3.out.alloc _).below hb)
  clear hb
  have A2_4 := hide (hK _ _ (heap_before A2_3.out))
  have A3_4 := hide (hK _ _ (heap_alloc_new _ _))
  clear A2_3 G3 hK L3
  go_wp2_with (first | (refine wpList_load_row_want (by rfl) 24 _ rfl _ rfl _ _ _ _ (heap_before A2_4.out) Try.underlying24 rfl info24 ?_) | (refine wpList_load_row_want (by rfl) 24 _ rfl _ rfl _ _ _ _ (heap_before A3_4.out) Try.underlying24 rfl info24 ?_) | (refine wpList_load_row_want (by rfl) 24 _ rfl _ rfl _ _ _ _ (heap_alloc_new _ _) Try.underlying24 rfl info24 ?_))
  go_ret
  exact ⟨rfl, below_alloc G4⟩
end Go.Proofs.Qxb6500608a.edgeBrim
