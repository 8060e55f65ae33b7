import Derived.Test.Qxb6500606aRows
import Derived.Test.Qxb6500606aVal
import Derived.WalkKit
import Derived.ProofKit
import Derived.WalkSpells
import Derived.WalkLawsBesides
import Derived.Laws.BytesArg
import Derived.Below
namespace Go.Proofs.Qxb6500606a
open Go.ChangeShapes Go.WideShapes Go.ChangeAt Go.RowKit

def str (l : List UInt8) : ByteArray := ⟨l.toArray⟩
def nums (l : List UInt8) : List Int := l.map fun b => (b.toNat : Int)

set_option maxHeartbeats 400000 in
theorem itoa_zero (w : World) : Calls Try.prog 33 #[.int .i64 0] w fun e w' => e = .returned (.string (str [48])) ∧ Below w.heap.size w w' := by
  go_enter Try.func33, Try.ntmps33
  go_wp2
  go_ret
  exact ⟨rfl, Below.refl _ _⟩

/-- What the loop of Itoa holds at a round's head: m is left, the digits 'suf' have been laid at the array's end. -/
structure ItoaI (N m k : Nat) (suf : List UInt8) (C : Array Value) : Prop where
  k20 : k ≤ 20
  len : suf.length = k
  size : C.size = 24
  small : m < 10 ^ (20 - k)
  all : digs 20 N = digs (20 - k) m ++ suf
  cells : ∀ j, j < k → C[24 - k + j]? = some (.int .u8 ((nums suf).getD j 0))

theorem ItoaI.start {N : Nat} (h : N < 10 ^ 20) (C : Array Value) (hC : C.size = 24) : ItoaI N N 0 [] C :=
  ⟨by omega, rfl, hC, by simpa using h, by simp, fun j hj => by omega⟩

theorem ItoaI.lt {N m k : Nat} {suf : List UInt8} {C : Array Value} (h : ItoaI N m k suf C) (hm : m ≠ 0) : k < 20 := by
  have := h.small
  have := h.k20
  rcases Nat.lt_or_ge k 20 with h1 | h1
  · exact h1
  · have : k = 20 := by omega
    subst this
    have := h.small
    simp at this
    omega

theorem ItoaI.next {N m k : Nat} {suf : List UInt8} {C : Array Value} (h : ItoaI N m k suf C) (hm : m ≠ 0) :
    ItoaI N (m / 10) (k + 1) (UInt8.ofNat (48 + m % 10) :: suf) (C.setIfInBounds (24 - (k + 1)) (.int .u8 (48 + (m % 10 : Nat)))) := by
  have hk := h.lt hm
  have hd : digs (20 - k) m = digs (20 - (k + 1)) (m / 10) ++ [UInt8.ofNat (48 + m % 10)] := by
    have e : 20 - k = (20 - (k + 1)) + 1 := by omega
    rw [e]; exact digs_step _ _ hm
  refine ⟨by omega, by simp [h.len], by simp [h.size], ?_, ?_, ?_⟩
  · have := h.small
    have e : 10 ^ (20 - k) = 10 ^ (20 - (k + 1)) * 10 := by
      rw [← Nat.pow_succ]; congr 1; omega
    rw [e] at this
    exact Nat.div_lt_of_lt_mul (by omega)
  · rw [h.all, hd]; simp
  · intro j hj
    cases j with
    | zero =>
      rw [Nat.add_zero, Array.getElem?_setIfInBounds, if_pos (by omega), if_pos (by rw [h.size]; omega)]
      simp [nums]; omega
    | succ j =>
      rw [Array.getElem?_setIfInBounds_ne (by omega)]
      have := h.cells j (by omega)
      rw [show 24 - (k + 1) + (j + 1) = 24 - k + j from by omega, this]
      simp [nums]

theorem ItoaI.done {N k : Nat} {suf : List UInt8} {C : Array Value} (h : ItoaI N 0 k suf C) : suf = digs 20 N := by
  rw [h.all, digs_zero]; rfl

theorem str_nums (l : List UInt8) : strOfNums (nums l) = str l := by
  have e : (nums l).map (fun n => UInt8.ofNat n.toNat) = l := by
    unfold nums
    rw [List.map_map]
    conv => rhs; rw [← List.map_id l]
    apply List.map_congr_left
    intro b _
    simp
  simp only [strOfNums, str, e]

theorem slice_tail (b k : Nat) (h1 : 1 ≤ k) (h2 : k ≤ 24) (w : World) :
    (Instr.sliceAt 75 (.pointer (some ⟨b, 0, none⟩)) (some (.int .i64 (24 - (k : Int)))) none none).run Try.prog w = .ok (.slice (some ⟨b, 24 - k, none⟩) k k) w := by
  have e : Try.prog.arrayLen 75 = 24 := by kernel_rfl
  rw [run_sliceAt_array_l w 75 ⟨b, 0, none⟩ (by kernel_rfl) .i64 (24 - (k : Int)) (by omega) (by rw [e]; omega), e]
  have e2 : (24 - (k : Int)).toNat = 24 - k := by omega
  have e3 : (sizeOf (Try.prog.elem 75)).run Try.prog w = .ok 1 w := by kernel_rfl
  rw [e2, e3]
  have e4 : 24 - (24 - k) = k := by omega
  have e5 : ¬ (24 = 24 - k) := by omega
  simp only [Result.andThen_ok, slicedAt, e4, Nat.mul_one]
  rw [if_neg e5, Addr.add_lit]
  simp

theorem tail_string (b k : Nat) (suf : List UInt8) (W : World) (h2 : suf.length = k)
    (hc : ∀ j, j < k → W.cell? ⟨b, 24 - k + j, none⟩ = some (.int .u8 ((nums suf).getD j 0))) :
    (convert 76 9 (.slice (some ⟨b, 24 - k, none⟩) k k)).run Try.prog W = .ok (.string (str suf)) W := by
  rw [← str_nums suf]
  exact run_convert_bytes_arg W 76 5 Try.underlying76 Try.underlying5 b (24 - k) k k (nums suf) (by simp [nums, h2]) hc 9 Try.underlying9

set_option maxHeartbeats 2000000 in
theorem itoa_pos (N : Nat) (w : World) (h0 : 0 < N) (h1 : N ≤ 9223372036854775807) :
    Calls Try.prog 33 #[.int .i64 (N : Int)] w fun e w' => e = .returned (.string (str (digs 20 N))) ∧ Below w.heap.size w w' := by
  have hn0 : ((N : Int) == 0) = false := by simp; omega
  have hlt : decide ((N : Int) < 0) = false := by simp
  go_enter Try.func33, Try.ntmps33
  go_wp2
  go_loopw [0, 4] (fun n i wr => ∃ (m k : Nat) (suf : List UInt8) (C : Array Value), n = .int .i64 (m : Int) ∧ i = .int .i64 (24 - (k : Int)) ∧ m ≤ N ∧ (k = 0 → m = N) ∧ ItoaI N m k suf C ∧ wr = w.alloc (.cells C 75))
    (fun n _ _ => (intOf n).natAbs)
  case atStart => exact ⟨N, 0, [], _, rfl, rfl, Nat.le_refl _, fun _ => rfl, ItoaI.start (by omega) _ (by simp), rfl⟩
  case round =>
    obtain ⟨m, k, suf, C, rfl, rfl, hmN, hkm, hI, rfl⟩ := hrel
    by_cases hm : m = 0
    · subst hm
      have hk := hI.k20
      have hk1 : 1 ≤ k := by
        rcases Nat.eq_zero_or_pos k with h | h
        · have := hkm h; omega
        · exact h
      clear hkm
      have hc : ∀ j, j < k → (w.alloc (.cells C 75)).cell? ⟨w.heap.size, 24 - k + j, none⟩ = some (.int .u8 ((nums suf).getD j 0)) := fun j hj => by
        rw [World.cell?_alloc_new]; exact hI.cells j hj
      have hcv := tail_string w.heap.size k suf _ hI.len hc
      have hsl := slice_tail w.heap.size k hk1 (by omega)
      clear hc
      go_wp2
      go_ret
      refine ⟨?_, (Below.refl _ _).alloc (Nat.le_refl _) _⟩
      rw [hI.done]; rfl
    · have hk := hI.lt hm
      have hm0 : ((m : Int) != 0) = true := by simp; omega
      obtain ⟨v0, hv0⟩ : ∃ v, C[24 - k - 1]? = some v := ⟨_, Array.getElem?_eq_getElem (by have := hI.size; omega)⟩
      clear hkm
      go_wp2
      go_roundw
      case rel =>
        have hx := hI.next hm
        rw [show 24 - (k + 1) = 24 - k - 1 from by omega, show ((m % 10 : Nat) : Int) = (m : Int) % 10 from by omega] at hx
        exact ⟨m / 10, k + 1, _, _, by go_num, by go_num, by omega, fun h => by omega, hx, rfl⟩
      case measure => simp [intOf]; omega


set_option maxHeartbeats 2000000 in
theorem itoa_neg (N : Nat) (w : World) (h0 : 0 < N) (h1 : N ≤ 9223372036854775808) :
    Calls Try.prog 33 #[.int .i64 (-(N : Int))] w fun e w' => e = .returned (.string (str (45 :: digs 20 N))) ∧ Below w.heap.size w w' := by
  have hn0 : ((-(N : Int)) == 0) = false := by simp; omega
  have hlt : decide ((-(N : Int)) < 0) = true := by simp; omega
  go_enter Try.func33, Try.ntmps33
  go_wp2
  go_loopw [0, 4] (fun n i wr => ∃ (m k : Nat) (suf : List UInt8) (C : Array Value), n = .int .i64 (-(m : Int)) ∧ i = .int .i64 (24 - (k : Int)) ∧ m ≤ N ∧ (k = 0 → m = N) ∧ ItoaI N m k suf C ∧ wr = w.alloc (.cells C 75))
    (fun n _ _ => (intOf n).natAbs)
  case atStart => exact ⟨N, 0, [], _, rfl, rfl, Nat.le_refl _, fun _ => rfl, ItoaI.start (by omega) _ (by simp), rfl⟩
  case round =>
    obtain ⟨m, k, suf, C, rfl, rfl, hmN, hkm, hI, rfl⟩ := hrel
    by_cases hm : m = 0
    · subst hm
      have hk := hI.k20
      have hk1 : 1 ≤ k := by
        rcases Nat.eq_zero_or_pos k with h | h
        · have := hkm h; omega
        · exact h
      clear hkm
      obtain ⟨v0, hv0⟩ : ∃ v, C[24 - k - 1]? = some v := ⟨_, Array.getElem?_eq_getElem (by have := hI.size; omega)⟩
      have hI2 : ∀ j, j < k + 1 → (w.alloc (.cells (C.setIfInBounds (24 - k - 1) (.int .u8 45)) 75)).cell? ⟨w.heap.size, 24 - (k + 1) + j, none⟩ = some (.int .u8 ((nums (45 :: suf)).getD j 0)) := fun j hj => by
        rw [World.cell?_alloc_new]
        cases j with
        | zero => rw [Nat.add_zero, Array.getElem?_setIfInBounds, if_pos (by omega), if_pos (by have := hI.size; omega)]; rfl
        | succ j =>
          rw [Array.getElem?_setIfInBounds_ne (by omega), show 24 - (k + 1) + (j + 1) = 24 - k + j from by omega, hI.cells j (by omega)]
          rfl
      have hcv := tail_string w.heap.size (k + 1) (45 :: suf) _ (by simp [hI.len]) hI2
      have hsl := slice_tail w.heap.size (k + 1) (by omega) (by omega)
      rw [show (24 - ((k + 1 : Nat) : Int)) = 24 - (k : Int) - 1 from by omega] at hsl
      rw [show 24 - (k + 1) = 23 - k from by omega] at hcv
      clear hI2
      go_wp2
      go_ret
      refine ⟨?_, (Below.refl _ _).alloc (Nat.le_refl _) _⟩
      rw [hI.done]; rfl
    · have hk := hI.lt hm
      have hm0 : ((-(m : Int)) != 0) = true := by simp; omega
      obtain ⟨v0, hv0⟩ : ∃ v, C[24 - k - 1]? = some v := ⟨_, Array.getElem?_eq_getElem (by have := hI.size; omega)⟩
      clear hkm
      have hd : (-(m : Int)).tmod 10 = -((m % 10 : Nat) : Int) := by rw [Int.neg_tmod, Int.tmod_eq_emod_of_nonneg (by omega)]; omega
      have hq : (-(m : Int)).tdiv 10 = -((m / 10 : Nat) : Int) := by rw [Int.neg_tdiv, Int.tdiv_eq_ediv_of_nonneg (by omega)]; omega
      by_cases h10 : m % 10 = 0
      all_goals
        go_wp2
        go_roundw
        case rel =>
          have hx := hI.next hm
          rw [show 24 - (k + 1) = 24 - k - 1 from by omega, show ((m % 10 : Nat) : Int) = (m : Int) % 10 from by omega] at hx
          refine ⟨m / 10, k + 1, _, _, by go_num, by go_num, by omega, fun h => by omega, hx, ?_⟩
          first | rfl | (rw [show (m : Int) % 10 = 0 from by omega]; rfl)
        case measure => simp [intOf]; omega


theorem itoa_calls (n : Int) (w : World) (h : I64 n) : Calls Try.prog 33 #[.int .i64 n] w fun e w' => e = .returned (.string (str (itoa n))) ∧ Below w.heap.size w w' := by
  obtain ⟨h1, h2⟩ := h
  rcases Int.lt_trichotomy n 0 with hn | hn | hn
  · obtain ⟨N, rfl⟩ : ∃ N : Nat, n = -(N : Int) := ⟨n.natAbs, by omega⟩
    have e : itoa (-(N : Int)) = 45 :: digs 20 N := by
      unfold itoa; rw [if_neg (by omega), if_pos (by omega), Int.natAbs_neg, Int.natAbs_natCast]; rfl
    rw [e]
    exact itoa_neg N w (by omega) (by omega)
  · subst hn; exact itoa_zero w
  · obtain ⟨N, rfl⟩ : ∃ N : Nat, n = (N : Int) := ⟨n.natAbs, by omega⟩
    have e : itoa (N : Int) = digs 20 N := by
      unfold itoa; rw [if_neg (by omega), if_neg (by omega), Int.natAbs_natCast]; rfl
    rw [e]
    exact itoa_pos N w (by omega) (by omega)
end Go.Proofs.Qxb6500606a
