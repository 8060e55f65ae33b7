/-
  EdgeBreak: the walk. (Written by wip/tpl/edges.py.)
-/
import Derived.Test.Qxb6500607aKit2
namespace Go.Proofs.Qxb6500607a.edgeBreak
open Go.ChangeShapes Go.WideShapes Go.ChangeAt Go.RowKit Go.Shelf
set_option linter.unusedVariables false

def ops1 : List Step := [{ k := 1, a := 3 }, { k := 1, a := 1, b := 7 }, { k := 2 }, { k := 1, a := 1, b := 7 }, { k := 2 }, { k := 1, a := 1, b := 7 }, { k := 7 }]
theorem say1 (W : World) (B : Nat) (hB : B = W.heap.size) : Calls Try.prog 13 #[.slice (some ⟨B, 0, none⟩) 7 7] (W.alloc (.cells #[.int .i64 1, .int .i64 3, .int .i64 0, .int .i64 0, .string { data := #[] }, .string { data := #[] }, .int .i64 1, .int .i64 1, .int .i64 7, .int .i64 0, .string { data := #[] }, .string { data := #[] }, .int .i64 2, .int .i64 0, .int .i64 0, .int .i64 0, .string { data := #[] }, .string { data := #[] }, .int .i64 1, .int .i64 1, .int .i64 7, .int .i64 0, .string { data := #[] }, .string { data := #[] }, .int .i64 2, .int .i64 0, .int .i64 0, .int .i64 0, .string { data := #[] }, .string { data := #[] }, .int .i64 1, .int .i64 1, .int .i64 7, .int .i64 0, .string { data := #[] }, .string { data := #[] }, .int .i64 7, .int .i64 0, .int .i64 0, .int .i64 0, .string { data := #[] }, .string { data := #[] }] 27)) fun e w' => e = .returned (.agg #[.int .i64 0, .int .i64 0, .int .i64 0, .string { data := #[49, 32, 48] }]) ∧ Below W.heap.size W w' :=
  say2_at ops1 _ 7 ⟨0, 0, [49, 32, 48]⟩ rfl rfl (by decide) (by kernel_rfl) (by kernel_rfl) W B hB
def ops2 : List Step := [{ k := 1, a := 1, b := 7 }, { k := 1, a := 1, b := 7 }, { k := 3 }, { k := 1, a := 1, b := 7 }, { k := 7 }]
theorem say2 (W : World) (B : Nat) (hB : B = W.heap.size) : Calls Try.prog 13 #[.slice (some ⟨B, 0, none⟩) 5 5] (W.alloc (.cells #[.int .i64 1, .int .i64 1, .int .i64 7, .int .i64 0, .string { data := #[] }, .string { data := #[] }, .int .i64 1, .int .i64 1, .int .i64 7, .int .i64 0, .string { data := #[] }, .string { data := #[] }, .int .i64 3, .int .i64 0, .int .i64 0, .int .i64 0, .string { data := #[] }, .string { data := #[] }, .int .i64 1, .int .i64 1, .int .i64 7, .int .i64 0, .string { data := #[] }, .string { data := #[] }, .int .i64 7, .int .i64 0, .int .i64 0, .int .i64 0, .string { data := #[] }, .string { data := #[] }] 27)) fun e w' => e = .returned (.agg #[.int .i64 0, .int .i64 0, .int .i64 0, .string { data := #[49, 32, 48] }]) ∧ Below W.heap.size W w' :=
  say2_at ops2 _ 5 ⟨0, 0, [49, 32, 48]⟩ rfl rfl (by decide) (by kernel_rfl) (by kernel_rfl) W B hB
def ops4 : List Step := [{ k := 1, a := 3 }, { k := 1, a := 1, b := 7 }, { k := 2 }, { k := 1, a := 1, b := 8 }, { k := 2 }]
def st4 : St := (saysF ops4 []).2
theorem go4 {w0 W : World} {x : Nat} (h : Live w0 W x []) (hG : Below w0.heap.size w0 W) (B : Nat) (hB : B = W.heap.size) : Calls Try.prog 15 #[.pointer (some ⟨x, 0, none⟩), .slice (some ⟨B, 0, none⟩) 5 5] (W.alloc (.cells #[.int .i64 1, .int .i64 3, .int .i64 0, .int .i64 0, .string { data := #[] }, .string { data := #[] }, .int .i64 1, .int .i64 1, .int .i64 7, .int .i64 0, .string { data := #[] }, .string { data := #[] }, .int .i64 2, .int .i64 0, .int .i64 0, .int .i64 0, .string { data := #[] }, .string { data := #[] }, .int .i64 1, .int .i64 1, .int .i64 8, .int .i64 0, .string { data := #[] }, .string { data := #[] }, .int .i64 2, .int .i64 0, .int .i64 0, .int .i64 0, .string { data := #[] }, .string { data := #[] }] 27)) fun e w' => e = .returned (.agg #[.int .i64 0, .int .i64 0, .int .i64 0, .string { data := #[49, 32, 91, 56, 32, 55, 93] }]) ∧ Live w0 w' x st4 ∧ Below w0.heap.size w0 w' ∧ Keep24 W w' :=
  go_at ops4 _ 5 ⟨0, 0, [49, 32, 91, 56, 32, 55, 93]⟩ [] rfl rfl (by decide) (by kernel_rfl) (by kernel_rfl) (by kernel_rfl) h hG B hB
def ops5 : List Step := [{ k := 1, a := 1, b := 7 }, { k := 2 }, { k := 1, a := 1, b := 7 }, { k := 7 }]
def st5 : St := (saysF ops5 st4).2
theorem go5 {w0 W : World} {x : Nat} (h : Live w0 W x st4) (hG : Below w0.heap.size w0 W) (B : Nat) (hB : B = W.heap.size) : Calls Try.prog 15 #[.pointer (some ⟨x, 0, none⟩), .slice (some ⟨B, 0, none⟩) 4 4] (W.alloc (.cells #[.int .i64 1, .int .i64 1, .int .i64 7, .int .i64 0, .string { data := #[] }, .string { data := #[] }, .int .i64 2, .int .i64 0, .int .i64 0, .int .i64 0, .string { data := #[] }, .string { data := #[] }, .int .i64 1, .int .i64 1, .int .i64 7, .int .i64 0, .string { data := #[] }, .string { data := #[] }, .int .i64 7, .int .i64 0, .int .i64 0, .int .i64 0, .string { data := #[] }, .string { data := #[] }] 27)) fun e w' => e = .returned (.agg #[.int .i64 0, .int .i64 0, .int .i64 0, .string { data := #[49, 32, 48] }]) ∧ Live w0 w' x st5 ∧ Below w0.heap.size w0 w' ∧ Keep24 W w' :=
  go_at ops5 _ 4 ⟨0, 0, [49, 32, 48]⟩ st4 rfl rfl (by decide) (by kernel_rfl) (by kernel_rfl) (by kernel_rfl) h hG B hB
set_option maxHeartbeats 4000000 in
theorem walk0 (w : World) : Calls Try.prog 5 #[] w fun e w' => e = .returned (.bool true) ∧ Below w.heap.size w w' := by
  have G0 := Below.refl w.heap.size w
  go_enter Try.func5, Try.ntmps5
  go_wp2_with fail
  refine (say1 _ _ (by simp)).mono ?_
  rintro e w1 ⟨rfl, hb⟩
  have G1 := G0.trans (hb.mono G0.size)
  have hK := Keep24.of_below hb
  clear hb
  clear G0 hK
  go_wp2_with fail
  refine (say2 _ _ (by simp)).mono ?_
  rintro e w2 ⟨rfl, hb⟩
  have G2 := (below_alloc G1).trans (hb.mono (below_alloc G1).size)
  have hK := Keep24.of_below hb
  clear hb
  have A1_2 := hide (hK _ _ (heap_alloc_new _ _))
  clear G1 hK
  go_wp2_with fail
  refine (new_at (below_alloc G2)).mono ?_
  rintro e w3 ⟨x, rfl, hL, G3, hK⟩
  have L3 := hide hL
  clear hL
  have A1_3 := hide (hK _ _ (heap_before A1_2.out))
  have A2_3 := hide (hK _ _ (heap_alloc_new _ _))
  clear A1_2 G2 hK
  go_wp2_with fail
  refine (go4 L3.out G3 _ (by simp)).mono ?_
  rintro e w4 ⟨rfl, hL, G4, hK⟩
  have L4 := hide hL
  clear hL
  have A1_4 := hide (hK _ _ A1_3.out)
  have A2_4 := hide (hK _ _ A2_3.out)
  clear A1_3 A2_3 G3 hK L3
  go_wp2_with fail
  refine (go5 L4.out G4 _ (by simp)).mono ?_
  rintro e w5 ⟨rfl, hL, G5, hK⟩
  have L5 := hide hL
  clear hL
  have A1_5 := hide (hK _ _ A1_4.out)
  have A2_5 := hide (hK _ _ A2_4.out)
  clear A1_4 A2_4 G4 hK L4
  go_wp2_with (first | (refine wpList_load_row_want (by rfl) 24 _ rfl _ rfl _ _ _ _ (heap_before A1_5.out) Try.underlying24 rfl info24 ?_) | (refine wpList_load_row_want (by rfl) 24 _ rfl _ rfl _ _ _ _ (heap_before A2_5.out) Try.underlying24 rfl info24 ?_) | (refine wpList_load_row_want (by rfl) 24 _ rfl _ rfl _ _ _ _ (heap_alloc_new _ _) Try.underlying24 rfl info24 ?_))
  go_ret
  exact ⟨rfl, below_alloc G5⟩
end Go.Proofs.Qxb6500607a.edgeBreak
