import Derived.Test.Qxb6500610aJoin
import Derived.Below
namespace Go.Proofs.Qxb6500610a
open Go.ChangeShapes Go.WideShapes Go.ChangeAt Go.RowKit

theorem bcell {W w1 : World} (hb : Below W.heap.size W w1) : (∀ b o, b < W.heap.size → w1.cell? ⟨b, o, none⟩ = W.cell? ⟨b, o, none⟩) ∧ (∀ b o, b < W.heap.size → w1.frozen? ⟨b, o, none⟩ = W.frozen? ⟨b, o, none⟩) :=
  ⟨fun b o h => hb.cell (p := ⟨b, o, none⟩) h, fun b o h => hb.frozen (p := ⟨b, o, none⟩) h⟩

structure S8 where
  n : Int
  s : Int
  p : Int
  u : Int
  b : Int
  f : Int
  l : Int
  r : Int
def S8.v (x : S8) : Value := seg x.n x.s x.p x.u x.b x.f x.l x.r
def S8.join (x y : S8) : S8 := ⟨wrap64 (x.n + y.n), wrap64 (x.s + y.s), mx x.p (wrap64 (x.s + y.p)), mx y.u (wrap64 (x.u + y.s)), mx (mx x.b y.b) (wrap64 (x.u + y.p)), x.f, y.l, lessRun x.l y.f (wrap64 (x.r + y.r))⟩
def one (r : Int) : S8 := ⟨1, r, r, r, r, r, r, 1⟩
def joinF (x y : S8) : S8 := if x.n = 0 then y else if y.n = 0 then x else x.join y
def foldTo (xs : List Int) (lo : Nat) : Nat → S8
  | 0 => ⟨0, 0, 0, 0, 0, 0, 0, 0⟩
  | k + 1 => joinF (foldTo xs lo k) (one (xs.getD (lo + k) 0))

theorem below3 (w : World) (c1 c2 c3 : Array Value) : Below w.heap.size w (((w.alloc (.cells c1 27)).alloc (.cells c2 27)).alloc (.cells c3 27)) :=
  (((Below.refl _ _).alloc (Nat.le_refl _) _).alloc (by simp) _).alloc (by simp; omega) _

theorem join_calls (x y : S8) (w : World) :
   Calls Try.prog 14 #[.agg #[.int .i64 x.n, .int .i64 x.s, .int .i64 x.p, .int .i64 x.u, .int .i64 x.b, .int .i64 x.f, .int .i64 x.l, .int .i64 x.r], .agg #[.int .i64 y.n, .int .i64 y.s, .int .i64 y.p, .int .i64 y.u, .int .i64 y.b, .int .i64 y.f, .int .i64 y.l, .int .i64 y.r]] w fun e w' =>
    e = .returned (joinF x y).v ∧ Below w.heap.size w w' := by
  by_cases hx : x.n = 0
  · rw [hx]
    refine (join_left _ _ _ _ _ _ _ _ _ _ _ _ _ _ _ w).mono ?_
    rintro e w' ⟨rfl, c1, c2, c3, rfl⟩
    exact ⟨by simp [joinF, hx, S8.v], below3 _ _ _ _⟩
  · by_cases hy : y.n = 0
    · rw [hy]
      refine (join_right _ _ _ _ _ _ _ _ _ _ _ _ _ _ _ w (by simpa using hx)).mono ?_
      rintro e w' ⟨rfl, c1, c2, c3, rfl⟩
      exact ⟨by simp [joinF, hx, hy, S8.v], below3 _ _ _ _⟩
    · refine (join_any _ _ _ _ _ _ _ _ _ _ _ _ _ _ _ _ w (by simpa using hx) (by simpa using hy)).mono ?_
      rintro e w' ⟨rfl, c1, c2, c3, c4, rfl⟩
      exact ⟨by simp [joinF, hx, hy, S8.v, S8.join], (below3 _ _ _ _).alloc (by simp; omega) _⟩

/-- The cells of a Seg at block B. -/
structure Holds8 (w : World) (B : Nat) (x : S8) : Prop where
  c0 : w.cell? ⟨B, 0, none⟩ = some (.int .i64 x.n)
  c1 : w.cell? ⟨B, 1, none⟩ = some (.int .i64 x.s)
  c2 : w.cell? ⟨B, 2, none⟩ = some (.int .i64 x.p)
  c3 : w.cell? ⟨B, 3, none⟩ = some (.int .i64 x.u)
  c4 : w.cell? ⟨B, 4, none⟩ = some (.int .i64 x.b)
  c5 : w.cell? ⟨B, 5, none⟩ = some (.int .i64 x.f)
  c6 : w.cell? ⟨B, 6, none⟩ = some (.int .i64 x.l)
  c7 : w.cell? ⟨B, 7, none⟩ = some (.int .i64 x.r)
  z : ∀ i, i < 8 → w.frozen? ⟨B, i, none⟩ = false

theorem Holds8.keep {w w' : World} {B : Nat} {x : S8} (h : Holds8 w B x) (hc : ∀ o, w'.cell? ⟨B, o, none⟩ = w.cell? ⟨B, o, none⟩) (hf : ∀ o, w'.frozen? ⟨B, o, none⟩ = w.frozen? ⟨B, o, none⟩) : Holds8 w' B x :=
  ⟨(hc _).trans h.c0, (hc _).trans h.c1, (hc _).trans h.c2, (hc _).trans h.c3, (hc _).trans h.c4, (hc _).trans h.c5, (hc _).trans h.c6, (hc _).trans h.c7, fun i hi => (hf i).trans (h.z i hi)⟩

def put8 (w : World) (B : Nat) (x : S8) : World := (((((((w.setCell ⟨B, 0, none⟩ (.int .i64 x.n)).setCell ⟨B, 1, none⟩ (.int .i64 x.s)).setCell ⟨B, 2, none⟩ (.int .i64 x.p)).setCell ⟨B, 3, none⟩ (.int .i64 x.u)).setCell ⟨B, 4, none⟩ (.int .i64 x.b)).setCell ⟨B, 5, none⟩ (.int .i64 x.f)).setCell ⟨B, 6, none⟩ (.int .i64 x.l)).setCell ⟨B, 7, none⟩ (.int .i64 x.r)
theorem put8_size (w : World) (B : Nat) (x : S8) : (put8 w B x).heap.size = w.heap.size := by simp [put8]
theorem put8_below {W w : World} {N B : Nat} (x : S8) (h : Below N W w) (hB : N ≤ B) : Below N W (put8 w B x) :=
  (((((((h.setCell hB _).setCell hB _).setCell hB _).setCell hB _).setCell hB _).setCell hB _).setCell hB _).setCell hB _
theorem put8_other {w : World} {B : Nat} (x : S8) {b o : Nat} (h : b ≠ B) : (put8 w B x).cell? ⟨b, o, none⟩ = w.cell? ⟨b, o, none⟩ := by
  have hne : ∀ i, (⟨B, i, none⟩ : Addr) ≠ ⟨b, o, none⟩ := fun i e => h (congrArg Addr.block e).symm
  unfold put8
  simp only [World.cell?_setCell_other _ _ _ _ (hne _)]
theorem put8_frozen {w : World} {B : Nat} (x : S8) (a : Addr) : (put8 w B x).frozen? a = w.frozen? a := by simp [put8]
theorem put8_holds {w : World} {B : Nat} {y : S8} (x : S8) (h : Holds8 w B y) : Holds8 (put8 w B x) B x := by
  obtain ⟨s0, s1, s2, s3, s4, s5, s6, s7, sz⟩ := h
  constructor
  case z => intro i hi; rw [put8_frozen]; exact sz i hi
  all_goals simp [put8, go_sem, *]

set_option maxHeartbeats 1000000 in
theorem fold_any (lo hi : Nat) (w : World) (h1 : lo ≤ hi) (h2 : hi ≤ 16) : Calls Try.prog 13 #[.agg rowsV, .int .i64 lo, .int .i64 hi] w fun e w' =>
    e = .returned (foldTo rowsL lo (hi - lo)).v ∧ Below w.heap.size w w' := by
  unfold rowsV
  go_enter Try.func13, Try.ntmps13
  go_wp2_with (go_at_call 26; refine (window_in _ _ _ (by omega) (by omega) (by omega)).mono ?_; rintro e w' ⟨rfl, rfl⟩)
  go_loopw [8] (fun i wr => ∃ k : Nat, lo + k ≤ hi ∧ i = .int .i64 (lo + k : Nat) ∧ w.heap.size + 3 ≤ wr.heap.size ∧
      Below w.heap.size w wr ∧ (∀ j, j < 16 → wr.cell? ⟨w.heap.size, j, none⟩ = some (.int .i64 (rowsL.getD j 0))) ∧ (Holds8 wr (w.heap.size + 1 + 1) (foldTo rowsL lo k)) ∧ (∃ x, Holds8 wr (w.heap.size + 1) x))
     (fun i wr => 16 - (intOf i).toNat)
  case atStart => 
    refine ⟨0, by omega, rfl, by simp, ?_, ?_, ?_, ⟨0, 0, 0, 0, 0, 0, 0, 0⟩, ?_⟩
    · exact (((Below.refl _ _).alloc (Nat.le_refl _) _).alloc (by simp) _).alloc (by simp; omega) _
    · intro j hj
      have : j = 0 ∨ j = 1 ∨ j = 2 ∨ j = 3 ∨ j = 4 ∨ j = 5 ∨ j = 6 ∨ j = 7 ∨ j = 8 ∨ j = 9 ∨ j = 10 ∨ j = 11 ∨ j = 12 ∨ j = 13 ∨ j = 14 ∨ j = 15 := by omega
      rcases this with rfl | rfl | rfl | rfl | rfl | rfl | rfl | rfl | rfl | rfl | rfl | rfl | rfl | rfl | rfl | rfl <;> simp [go_sem, rowsL]
    · constructor <;> simp [go_sem, foldTo]
    · constructor <;> simp [go_sem]
  case round =>
    obtain ⟨k, hk, rfl, hz, hb, hrows, hs, x, hx⟩ := hrel
    by_cases hlt : lo + k < hi
    · have hsH : Hid (Holds8 wr (w.heap.size + 1 + 1) (foldTo rowsL lo k)) := hs
      obtain ⟨s0, s1, s2, s3, s4, s5, s6, s7, sz⟩ := hs
      have hrow := hrows (lo + k) (by omega)
      go_wp2_with fail
      refine (join_calls (foldTo rowsL lo k) (one (rowsL[lo + k]?.getD 0)) _).mono ?_
      rintro e w1 ⟨rfl, hb1⟩
      obtain ⟨hc, hf⟩ := bcell hb1
      have hz1 : w.heap.size + 3 ≤ w1.heap.size := Nat.le_trans hz hb1.size
      clear s0 s1 s2 s3 s4 s5 s6 s7 sz hrow
      obtain ⟨s0, s1, s2, s3, s4, s5, s6, s7, sz⟩ := hsH.out.keep (fun o => hc _ _ (by omega)) (fun o => hf _ _ (by omega))
      have hx1 := hx.keep (fun o => hc _ _ (by omega)) (fun o => hf _ _ (by omega))
      have hr1 : ∀ j, j < 16 → w1.cell? ⟨w.heap.size, j, none⟩ = some (.int .i64 (rowsL.getD j 0)) := fun j hj => (hc _ _ (by omega)).trans (hrows j hj)
      have hb2 := hb.trans (hb1.mono (by omega))
      have e1 : foldTo rowsL lo (k + 1) = joinF (foldTo rowsL lo k) (one (rowsL[lo + k]?.getD 0)) := rfl
      rw [← e1]
      clear e1 hc hf hsH hx hrows hb1 hb hz
      have Hr : Hid _ := hr1
      have Hx : Hid _ := hx1
      clear hr1 hx1
      unfold S8.v seg
      go_wp2_with fail
      go_roundw
      case rel =>
        have hs1 : Holds8 w1 (w.heap.size + 1 + 1) (foldTo rowsL lo k) := ⟨s0, s1, s2, s3, s4, s5, s6, s7, sz⟩
        clear s0 s1 s2 s3 s4 s5 s6 s7 sz
        refine ⟨k + 1, by omega, by go_num, ?_, put8_below _ hb2 (by omega), fun j hj => (put8_other _ (by omega)).trans (Hr.out j hj), put8_holds _ hs1, x, Hx.out.keep (fun o => put8_other _ (by omega)) (fun o => put8_frozen _ _)⟩
        show _ ≤ (put8 _ _ _).heap.size; rw [put8_size]; exact hz1
      case measure => simp [intOf]; omega
    · have hkk : k = hi - lo := by omega
      have Hk : Hid (k = hi - lo) := hkk
      clear hkk
      obtain ⟨s0, s1, s2, s3, s4, s5, s6, s7, sz⟩ := hs
      obtain ⟨x0, x1, x2, x3, x4, x5, x6, x7, xz⟩ := hx
      clear hrows
      go_wp2_with fail
      have e1 : foldTo rowsL lo (hi - lo) = foldTo rowsL lo k := by rw [← Hk.out]
      refine bodyPost_ret (v := (foldTo rowsL lo k).v) ?_ rfl ⟨by rw [e1], ?_⟩
      · simp [results, Try.results13, go_sem, S8.v, seg, *]
      · refine put8_below _ hb (by omega)
end Go.Proofs.Qxb6500610a
