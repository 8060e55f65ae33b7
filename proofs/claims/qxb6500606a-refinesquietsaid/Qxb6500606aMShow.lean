/-
  The model valsm: Show. (Seat 606 alone.)
-/
import Derived.Test.Qxb6500606aMWords
namespace Go.Proofs.Qxb6500606a
open Go.ChangeShapes Go.WideShapes Go.ChangeAt Go.RowKit
attribute [local go_sem] str_size str_app str_app1 str_1app str_toList str_get
set_option linter.unusedVariables false

section
variable {w : World} {m : Nat} {g : Option Nat} {vs : St}
/-- One of the stack's values, at an index. -/
theorem MStk.nth (h : MStk w m g vs) {i : Nat} {v : V} (hv : vs[i]? = some v) : ∃ b cap cs, w.cell? ⟨m, 0, none⟩ = some (.slice (some ⟨b, 0, none⟩) vs.length cap) ∧ w.rangeAt b (i * 4) cs ∧ MV w (ex g) v cs ∧ b < w.heap.size := by
  obtain ⟨a, cap, css, h1, h2, h3, h4, _⟩ := h.open
  obtain ⟨b, cap', cs, ek, hb, _, hR, hv, hbl⟩ := h4.at hv
  cases ek
  exact ⟨b, cap, cs, h2, hR, hv, hbl⟩
set_option maxRecDepth 10000 in
set_option maxHeartbeats 1000000 in
theorem mShow (h : MStk w m g vs) (hok : Okay vs) (hwf : ∀ v ∈ vs, Wf v) : Calls Try.prog 34 #[.pointer (some ⟨m, 0, none⟩)] w fun e w' => e = .returned (.string (str (showF vs))) ∧ Below w.heap.size w w' := by
  obtain ⟨a, cap, c0⟩ := depth_c0 h
  have hn5 := hok.1
  have hit := hide (itoa_calls vs.length w (nat_i64 (by omega)))
  have HG : Hid (∀ w1, Below w.heap.size w w1 → MStk w1 m g vs) := fun w1 hb => h.below hb
  have hil := itoa_length vs.length
  have HOK := hide hok
  have HWF := hide hwf
  have HF : Hid (showF vs = itoa vs.length ++ showAll vs) := rfl
  have hml := h.lt.1
  clear h hok hwf
  generalize hIT : itoa (vs.length : Int) = it at *
  clear hIT
  go_enter Try.func34, Try.ntmps34
  go_wp2_with (go_at_call 33; refine hit.out.mono ?_; rintro e w1 ⟨rfl, hb1⟩)
  go_loopw [3, 4] (fun t x W => ∃ j : Nat, x = .int .i64 j ∧ j ≤ vs.length ∧ t = .string (str (it ++ showAll (vs.take j))) ∧ Below w.heap.size w W) (fun t x W => vs.length - (intOf x).toNat)
  case atStart => exact ⟨0, rfl, Nat.zero_le _, by simp [showAll], hb1⟩
  case round =>
    obtain ⟨j, rfl, hj, rfl, hbw⟩ := hrel
    have c1 := (hbw.cell (p := ⟨m, 0, none⟩) hml).trans c0
    by_cases hjl : j < vs.length
    · have hv : vs[j]? = some vs[j] := List.getElem?_eq_getElem hjl
      obtain ⟨b, cap', cs, c2, hR, hmv, hbl⟩ := (HG.out wr hbw).nth hv
      have hs := showAll_snoc (vs.take j) vs[j]
      have et : vs.take j ++ [vs[j]] = vs.take (j + 1) := by rw [List.take_add_one, hv]; rfl
      rw [et] at hs
      have HS := hide hs
      have hl1 := showAll_length (vs.take j) (fun v hv => HOK.out.2 v (List.mem_of_mem_take hv))
      have hl2 : (vs.take j).length ≤ 5 := by simp; omega
      have hl3 := HOK.out.2 vs[j] (List.getElem_mem _)
      have htx := hide (mtext_calls hmv (HWF.out _ (List.getElem_mem _)) (by omega) wr (Below.refl _ _))
      have hR' := hide hR
      have h4 := hide hmv.len
      have hd : decide ((j : Int) < vs.length) = true := decide_eq_true (by omega)
      have hj5 : j < 5 := by omega
      clear hs et hv hR hmv c1
      generalize text vs[j] = tv at *
      generalize hsa : showAll (vs.take j) = sa at *
      go_wp2_with (first | (refine wpList_load_mid rfl 79 _ rfl b (j * 4) rfl cs _ hR'.out Try.underlying79 rfl (info79 cs h4.out) ?_) | (go_at_call 68; refine htx.out.mono ?_; rintro e' w5 ⟨rfl, hb5⟩))
      go_roundw
      case rel => exact ⟨j + 1, by go_num, by omega, by rw [HS.out] <;> simp, below_next hbw hb5⟩
      case measure => simp [intOf]; omega
    · have e : j = vs.length := by omega
      subst e
      have hd : decide ((vs.length : Int) < vs.length) = false := decide_eq_false (by omega)
      have HR : Hid (it ++ showAll (vs.take vs.length) = showF vs) := by rw [List.take_length]; exact HF.out.symm
      generalize it ++ showAll (vs.take vs.length) = ts at *
      go_wp2
      go_ret
      exact ⟨by rw [← HR.out] <;> rfl, hbw⟩
end
end Go.Proofs.Qxb6500606a
