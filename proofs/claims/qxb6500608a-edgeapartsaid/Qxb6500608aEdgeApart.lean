/-
  EdgeApart: the walk. (Written by wip/tpl/edges.py.)
-/
import Derived.Test.Qxb6500608aKit2
namespace Go.Proofs.Qxb6500608a.edgeApart
open Go.ChangeShapes Go.WideShapes Go.ChangeAt Go.RowKit Go.Shelf
set_option linter.unusedVariables false

def ops3 : List Step := [{ k := 1, a := 1, b := 4 }]
def st3 : St := (saysF ops3 []).2
theorem go3 {w0 W : World} {x y : Nat} {vy : St} (h : Live2 w0 W x [] y vy) (hG : Below w0.heap.size w0 W) (B : Nat) (hB : B = W.heap.size) : Calls Try.prog 15 #[.pointer (some ⟨x, 0, none⟩), .slice (some ⟨B, 0, none⟩) 1 1] (W.alloc (.cells #[.int .i64 1, .int .i64 1, .int .i64 4, .int .i64 0, .string { data := #[] }, .string { data := #[] }] 27)) fun e w' => e = .returned (.agg #[.int .i64 0, .int .i64 0, .int .i64 0, .string { data := #[49, 32, 52] }]) ∧ Live2 w0 w' x st3 y vy ∧ Below w0.heap.size w0 w' ∧ Keep24 W w' :=
  go2_at ops3 _ 1 ⟨0, 0, [49, 32, 52]⟩ [] rfl rfl (by decide) (by kernel_rfl) (by kernel_rfl) (by kernel_rfl) h hG B hB
def ops4 : List Step := [{ k := 1, a := 1, b := 1 }, { k := 1, a := 1, b := 2 }, { k := 3 }]
def st4 : St := (saysF ops4 []).2
theorem go4 {w0 W : World} {x y : Nat} {vy : St} (h : Live2 w0 W x [] y vy) (hG : Below w0.heap.size w0 W) (B : Nat) (hB : B = W.heap.size) : Calls Try.prog 15 #[.pointer (some ⟨x, 0, none⟩), .slice (some ⟨B, 0, none⟩) 3 3] (W.alloc (.cells #[.int .i64 1, .int .i64 1, .int .i64 1, .int .i64 0, .string { data := #[] }, .string { data := #[] }, .int .i64 1, .int .i64 1, .int .i64 2, .int .i64 0, .string { data := #[] }, .string { data := #[] }, .int .i64 3, .int .i64 0, .int .i64 0, .int .i64 0, .string { data := #[] }, .string { data := #[] }] 27)) fun e w' => e = .returned (.agg #[.int .i64 0, .int .i64 0, .int .i64 0, .string { data := #[49, 32, 60, 49, 32, 50, 62] }]) ∧ Live2 w0 w' x st4 y vy ∧ Below w0.heap.size w0 w' ∧ Keep24 W w' :=
  go2_at ops4 _ 3 ⟨0, 0, [49, 32, 60, 49, 32, 50, 62]⟩ [] rfl rfl (by decide) (by kernel_rfl) (by kernel_rfl) (by kernel_rfl) h hG B hB
def ops5 : List Step := [{ k := 12 }]
def st5 : St := (saysF ops5 st3).2
theorem go5 {w0 W : World} {x y : Nat} {vy : St} (h : Live2 w0 W x st3 y vy) (hG : Below w0.heap.size w0 W) (B : Nat) (hB : B = W.heap.size) : Calls Try.prog 15 #[.pointer (some ⟨x, 0, none⟩), .slice (some ⟨B, 0, none⟩) 1 1] (W.alloc (.cells #[.int .i64 12, .int .i64 0, .int .i64 0, .int .i64 0, .string { data := #[] }, .string { data := #[] }] 27)) fun e w' => e = .returned (.agg #[.int .i64 0, .int .i64 0, .int .i64 0, .string { data := #[49, 32, 56] }]) ∧ Live2 w0 w' x st5 y vy ∧ Below w0.heap.size w0 w' ∧ Keep24 W w' :=
  go2_at ops5 _ 1 ⟨0, 0, [49, 32, 56]⟩ st3 rfl rfl (by decide) (by kernel_rfl) (by kernel_rfl) (by kernel_rfl) h hG B hB
def ops6 : List Step := [{ k := 13 }]
def st6 : St := (saysF ops6 st4).2
theorem go6 {w0 W : World} {x y : Nat} {vy : St} (h : Live2 w0 W x st4 y vy) (hG : Below w0.heap.size w0 W) (B : Nat) (hB : B = W.heap.size) : Calls Try.prog 15 #[.pointer (some ⟨x, 0, none⟩), .slice (some ⟨B, 0, none⟩) 1 1] (W.alloc (.cells #[.int .i64 13, .int .i64 0, .int .i64 0, .int .i64 0, .string { data := #[] }, .string { data := #[] }] 27)) fun e w' => e = .returned (.agg #[.int .i64 0, .int .i64 1, .int .i64 0, .string { data := #[49, 32, 60, 49, 32, 50, 62] }]) ∧ Live2 w0 w' x st6 y vy ∧ Below w0.heap.size w0 w' ∧ Keep24 W w' :=
  go2_at ops6 _ 1 ⟨0, 1, [49, 32, 60, 49, 32, 50, 62]⟩ st4 rfl rfl (by decide) (by kernel_rfl) (by kernel_rfl) (by kernel_rfl) h hG B hB
def ops7 : List Step := [{ k := 12, a := 2 }]
def st7 : St := (saysF ops7 st6).2
theorem go7 {w0 W : World} {x y : Nat} {vy : St} (h : Live2 w0 W x st6 y vy) (hG : Below w0.heap.size w0 W) (B : Nat) (hB : B = W.heap.size) : Calls Try.prog 15 #[.pointer (some ⟨x, 0, none⟩), .slice (some ⟨B, 0, none⟩) 1 1] (W.alloc (.cells #[.int .i64 12, .int .i64 2, .int .i64 0, .int .i64 0, .string { data := #[] }, .string { data := #[] }] 27)) fun e w' => e = .returned (.agg #[.int .i64 0, .int .i64 0, .int .i64 0, .string { data := #[50, 32, 49, 32, 50] }]) ∧ Live2 w0 w' x st7 y vy ∧ Below w0.heap.size w0 w' ∧ Keep24 W w' :=
  go2_at ops7 _ 1 ⟨0, 0, [50, 32, 49, 32, 50]⟩ st6 rfl rfl (by decide) (by kernel_rfl) (by kernel_rfl) (by kernel_rfl) h hG B hB
def ops8 : List Step := [{ k := 13 }]
def st8 : St := (saysF ops8 st5).2
theorem go8 {w0 W : World} {x y : Nat} {vy : St} (h : Live2 w0 W x st5 y vy) (hG : Below w0.heap.size w0 W) (B : Nat) (hB : B = W.heap.size) : Calls Try.prog 15 #[.pointer (some ⟨x, 0, none⟩), .slice (some ⟨B, 0, none⟩) 1 1] (W.alloc (.cells #[.int .i64 13, .int .i64 0, .int .i64 0, .int .i64 0, .string { data := #[] }, .string { data := #[] }] 27)) fun e w' => e = .returned (.agg #[.int .i64 0, .int .i64 1, .int .i64 0, .string { data := #[49, 32, 56] }]) ∧ Live2 w0 w' x st8 y vy ∧ Below w0.heap.size w0 w' ∧ Keep24 W w' :=
  go2_at ops8 _ 1 ⟨0, 1, [49, 32, 56]⟩ st5 rfl rfl (by decide) (by kernel_rfl) (by kernel_rfl) (by kernel_rfl) h hG B hB
set_option maxHeartbeats 4000000 in
theorem walk0 (w : World) : Calls Try.prog 4 #[] w fun e w' => e = .returned (.bool true) ∧ Below w.heap.size w w' := by
  have G0 := Below.refl w.heap.size w
  go_enter Try.func4, Try.ntmps4
  go_wp2_with fail
  refine (new_at G0).mono ?_
  rintro e w1 ⟨x, rfl, hL, G1, hK⟩
  have L1 := hide hL
  clear hL
  clear G0 hK
  go_wp2_with fail
  refine (new2_at G1 L1.out).mono ?_
  rintro e w2 ⟨y, rfl, hL, G2, hK⟩
  have L2 := hide hL
  clear hL
  clear G1 hK L1
  go_wp2_with fail
  refine (go3 L2.out G2 _ (by simp)).mono ?_
  rintro e w3 ⟨rfl, hL, G3, hK⟩
  have L3 := hide hL
  clear hL
  clear G2 hK L2
  go_wp2_with fail
  refine (go4 L3.out.swap G3 _ (by simp)).mono ?_
  rintro e w4 ⟨rfl, hL, G4, hK⟩
  have L4 := hide hL
  clear hL
  clear G3 hK L3
  go_wp2_with fail
  refine (go5 L4.out.swap G4 _ (by simp)).mono ?_
  rintro e w5 ⟨rfl, hL, G5, hK⟩
  have L5 := hide hL
  clear hL
  clear G4 hK L4
  go_wp2_with fail
  refine (go6 (L5.out.alloc _).swap (below_alloc G5) _ (by simp)).mono ?_
  rintro e w6 ⟨rfl, hL, G6, hK⟩
  have L6 := hide hL
  clear hL
  have A5_6 := hide (hK _ _ (heap_alloc_new _ _))
  clear G5 hK L5
  go_wp2_with fail
  refine (go7 (L6.out.alloc _) (below_alloc G6) _ (by simp)).mono ?_
  rintro e w7 ⟨rfl, hL, G7, hK⟩
  have L7 := hide hL
  clear hL
  have A5_7 := hide (hK _ _ (heap_before A5_6.out))
  have A6_7 := hide (hK _ _ (heap_alloc_new _ _))
  clear A5_6 G6 hK L6
  go_wp2_with fail
  refine (go8 (L7.out.alloc _).swap (below_alloc G7) _ (by simp)).mono ?_
  rintro e w8 ⟨rfl, hL, G8, hK⟩
  have L8 := hide hL
  clear hL
  have A5_8 := hide (hK _ _ (heap_before A5_7.out))
  have A6_8 := hide (hK _ _ (heap_before A6_7.out))
  have A7_8 := hide (hK _ _ (heap_alloc_new _ _))
  clear A5_7 A6_7 G7 hK L7
  go_wp2_with (first | (refine wpList_load_row_want (by rfl) 24 _ rfl _ rfl _ _ _ _ (heap_before A5_8.out) Try.underlying24 rfl info24 ?_) | (refine wpList_load_row_want (by rfl) 24 _ rfl _ rfl _ _ _ _ (heap_before A6_8.out) Try.underlying24 rfl info24 ?_) | (refine wpList_load_row_want (by rfl) 24 _ rfl _ rfl _ _ _ _ (heap_before A7_8.out) Try.underlying24 rfl info24 ?_) | (refine wpList_load_row_want (by rfl) 24 _ rfl _ rfl _ _ _ _ (heap_alloc_new _ _) Try.underlying24 rfl info24 ?_))
  go_ret
  exact ⟨rfl, below_alloc G8⟩
end Go.Proofs.Qxb6500608a.edgeApart
