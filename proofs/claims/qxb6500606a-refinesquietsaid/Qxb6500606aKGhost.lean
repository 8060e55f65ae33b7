/-
  Keeps: the ghost in memory; Shown. (Seat 606 alone: type 38 is Ghost, 36 its array.)
-/
import Derived.Test.Qxb6500606aKSum
namespace Go.Proofs.Qxb6500606a
open Go.ChangeShapes Go.WideShapes Go.ChangeAt Go.RowKit
attribute [local go_sem] str_size str_app str_app1 str_1app str_toList str_get
set_option linter.unusedVariables false

def ghostC (n : Nat) (t0 t1 t2 t3 t4 : List UInt8) : Array Value := #[.int .i64 n, .string (str t0), .string (str t1), .string (str t2), .string (str t3), .string (str t4)]
/-- The ghost holds the texts of vs. -/
def GhostAt (w : World) (G : Nat) (vs : St) : Prop := ∃ t0 t1 t2 t3 t4, w.heap[G]? = some (.cells (ghostC vs.length t0 t1 t2 t3 t4) 38) ∧ ∀ (i : Nat) (v : V), vs[i]? = some v → [t0, t1, t2, t3, t4][i]? = some (text v)
theorem GhostAt.cell {w : World} {G : Nat} {vs : St} (h : GhostAt w G vs) : w.cell? ⟨G, 0, none⟩ = some (.int .i64 vs.length) ∧ ∀ (i : Nat) (v : V), vs[i]? = some v → w.cell? ⟨G, 1 + i, none⟩ = some (.string (str (text v))) := by
  obtain ⟨t0, t1, t2, t3, t4, hh, ht⟩ := h
  refine ⟨by simp [World.cell?, hh, ghostC], fun i v hv => ?_⟩
  have h1 := ht i v hv
  have hi : i < 5 := by have := (List.getElem?_eq_some_iff.1 h1).1; simpa using this
  simp only [World.cell?, hh, ghostC]
  rcases (show i = 0 ∨ i = 1 ∨ i = 2 ∨ i = 3 ∨ i = 4 by omega) with rfl | rfl | rfl | rfl | rfl <;> (simp at h1; subst h1; rfl)
theorem GhostAt.below {w w' : World} {G : Nat} {vs : St} (h : GhostAt w G vs) (hb : Below w.heap.size w w') : GhostAt w' G vs := by
  obtain ⟨t0, t1, t2, t3, t4, hh, ht⟩ := h
  exact ⟨t0, t1, t2, t3, t4, (hb.block G (lt_of_heap hh)).trans hh, ht⟩
set_option maxHeartbeats 400000 in
theorem shown_calls {w : World} {G : Nat} {vs : St} (h : GhostAt w G vs) (hok : Okay vs) :
    Calls Try.prog 26 #[.pointer (some ⟨G, 0, none⟩)] w fun e w' => e = .returned (.string (str (showF vs))) ∧ Below w.heap.size w w' := by
  have c0 := h.cell.1
  have hit := hide (itoa_calls vs.length w (nat_i64 (by have := hok.1; omega)))
  have hn5 := hok.1
  have HG : Hid (∀ w1, Below w.heap.size w w1 → GhostAt w1 G vs) := fun w1 hb => h.below hb
  have hil := itoa_length vs.length
  have HOK := hide hok
  have HF : Hid (showF vs = itoa vs.length ++ showAll vs) := rfl
  clear h hok
  generalize hIT : itoa (vs.length : Int) = it at *
  clear hIT
  go_enter Try.func26, Try.ntmps26
  go_wp2_with (go_at_call 33; refine hit.out.mono ?_; rintro e w1 ⟨rfl, hb1⟩; have d0 := (HG.out w1 hb1).cell.1)
  go_loop [3, 4] (fun t x => ∃ j : Nat, x = .int .i64 j ∧ j ≤ vs.length ∧ t = .string (str (it ++ showAll (vs.take j)))) (fun t x => vs.length - (intOf x).toNat)
  case atStart => exact ⟨0, rfl, Nat.zero_le _, by simp [showAll]⟩
  case round =>
    obtain ⟨j, rfl, hj, rfl⟩ := hrel
    by_cases hjl : j < vs.length
    · have hv : vs[j]? = some vs[j] := List.getElem?_eq_getElem hjl
      have dj := (HG.out w1 hb1).cell.2 j _ hv
      have hs := showAll_snoc (vs.take j) vs[j]
      have et : vs.take j ++ [vs[j]] = vs.take (j + 1) := by rw [List.take_add_one, hv]; rfl
      rw [et] at hs
      have HS := hide hs
      have hl1 := showAll_length (vs.take j) (fun v hv => HOK.out.2 v (List.mem_of_mem_take hv))
      have hl2 : (vs.take j).length ≤ 5 := by simp; omega
      have hl3 := HOK.out.2 vs[j] (List.getElem_mem _)
      have hd : decide ((j : Int) < vs.length) = true := decide_eq_true (by omega)
      have hj5 : j < 5 := by omega
      clear hs et hv
      generalize text vs[j] = tv at *
      generalize hsa : showAll (vs.take j) = sa at *
      go_wp2
      go_round
      case rel => exact ⟨j + 1, by go_num, by omega, by rw [HS.out] <;> simp⟩
      case measure => simp [intOf]; omega
    · have e : j = vs.length := by omega
      subst e
      have hd : decide ((vs.length : Int) < vs.length) = false := decide_eq_false (by omega)
      have HR : Hid (it ++ showAll (vs.take vs.length) = showF vs) := by rw [List.take_length]; exact HF.out.symm
      generalize it ++ showAll (vs.take vs.length) = ts at *
      go_wp2
      go_ret
      exact ⟨by rw [← HR.out] <;> rfl, hb1⟩
end Go.Proofs.Qxb6500606a
