import Derived.Test.Qxb6500610aRows
import Derived.WalkKit
import Derived.ProofKit
import Derived.OpenShut
import Derived.ShutString
namespace Go.Proofs.Qxb6500610a
open Go.ChangeShapes Go.WideShapes Go.ChangeAt Go.RowKit

def rowsL : List Int := [3, -5, 4, 4, -1, 2, -7, 6, 6, -2, 5, -9, 1, 0, 8, -4]
def rowsV : Array Value := #[.int .i64 3, .int .i64 (-5), .int .i64 4, .int .i64 4, .int .i64 (-1), .int .i64 2, .int .i64 (-7), .int .i64 6, .int .i64 6, .int .i64 (-2), .int .i64 5, .int .i64 (-9), .int .i64 1, .int .i64 0, .int .i64 8, .int .i64 (-4)]

set_option maxHeartbeats 400000 in
theorem named_any (w : World) : Calls Try.prog 12 #[] w fun e w' => e = .returned (.agg rowsV) ∧ ∃ c, w' = w.alloc (.cells c 30) := by
  go_enter Try.func12, Try.ntmps12
  go_wp2
  exact bodyPost_ret (v := .agg rowsV) (by simp [results, Try.results12, go_sem, rowsV]) rfl ⟨rfl, _, rfl⟩

theorem window_in (lo hi : Int) (w : World) (h0 : 0 ≤ lo) (h1 : lo ≤ hi) (h2 : hi ≤ 16) : Calls Try.prog 26 #[.int .i64 lo, .int .i64 hi] w fun e w' => e = .returned (.tuple #[.int .i64 lo, .int .i64 hi]) ∧ w' = w := by
  go_enter Try.func26, Try.ntmps26
  go_wp2
  go_ret2
  exact ⟨rfl, rfl⟩

def seg (n s p u b f l r : Int) : Value := .agg #[.int .i64 n, .int .i64 s, .int .i64 p, .int .i64 u, .int .i64 b, .int .i64 f, .int .i64 l, .int .i64 r]
def mx (a b : Int) : Int := if a < b then b else a
def lessRun (l f r : Int) : Int := if f < l then r else wrap64 (r - 1)
set_option maxHeartbeats 4000000 in
theorem join_any (n s p u b f l r n' s' p' u' b' f' l' r' : Int) (w : World) (hn : (n == 0) = false) (hn' : (n' == 0) = false) :
   Calls Try.prog 14 #[.agg #[.int .i64 n, .int .i64 s, .int .i64 p, .int .i64 u, .int .i64 b, .int .i64 f, .int .i64 l, .int .i64 r], .agg #[.int .i64 n', .int .i64 s', .int .i64 p', .int .i64 u', .int .i64 b', .int .i64 f', .int .i64 l', .int .i64 r']] w fun e w' =>
    e = .returned (seg (wrap64 (n + n')) (wrap64 (s + s')) (mx p (wrap64 (s + p'))) (mx u' (wrap64 (u + s'))) (mx (mx b b') (wrap64 (u + p'))) f l' (lessRun l f' (wrap64 (r + r')))) ∧
    ∃ c1 c2 c3 c4, w' = (((w.alloc (.cells c1 27)).alloc (.cells c2 27)).alloc (.cells c3 27)).alloc (.cells c4 27) := by
  go_enter Try.func14, Try.ntmps14
  go_wp2
  all_goals
    refine bodyPost_ret (v := _) (by simp [results, Try.results14, go_sem]; rfl) rfl ⟨?_, _, _, _, _, rfl⟩
    try simp only [← Int.not_lt] at *
    simp [seg, mx, lessRun, *]

set_option maxHeartbeats 400000 in
theorem join_left (s p u b f l r n' s' p' u' b' f' l' r' : Int) (w : World) :
   Calls Try.prog 14 #[.agg #[.int .i64 0, .int .i64 s, .int .i64 p, .int .i64 u, .int .i64 b, .int .i64 f, .int .i64 l, .int .i64 r], .agg #[.int .i64 n', .int .i64 s', .int .i64 p', .int .i64 u', .int .i64 b', .int .i64 f', .int .i64 l', .int .i64 r']] w fun e w' =>
    e = .returned (seg n' s' p' u' b' f' l' r') ∧
    ∃ c1 c2 c3, w' = ((w.alloc (.cells c1 27)).alloc (.cells c2 27)).alloc (.cells c3 27) := by
  go_enter Try.func14, Try.ntmps14
  go_wp2
  exact bodyPost_ret (v := _) (by simp [results, Try.results14, go_sem]; rfl) rfl ⟨rfl, _, _, _, rfl⟩

set_option maxHeartbeats 400000 in
theorem join_right (n s p u b f l r s' p' u' b' f' l' r' : Int) (w : World) (hn : (n == 0) = false) :
   Calls Try.prog 14 #[.agg #[.int .i64 n, .int .i64 s, .int .i64 p, .int .i64 u, .int .i64 b, .int .i64 f, .int .i64 l, .int .i64 r], .agg #[.int .i64 0, .int .i64 s', .int .i64 p', .int .i64 u', .int .i64 b', .int .i64 f', .int .i64 l', .int .i64 r']] w fun e w' =>
    e = .returned (seg n s p u b f l r) ∧
    ∃ c1 c2 c3, w' = ((w.alloc (.cells c1 27)).alloc (.cells c2 27)).alloc (.cells c3 27) := by
  go_enter Try.func14, Try.ntmps14
  go_wp2
  exact bodyPost_ret (v := _) (by simp [results, Try.results14, go_sem]; rfl) rfl ⟨rfl, _, _, _, rfl⟩
end Go.Proofs.Qxb6500610a
