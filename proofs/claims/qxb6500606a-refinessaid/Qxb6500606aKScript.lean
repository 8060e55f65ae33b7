/-
  A script, opened: the row's argument. (Seat 606 alone.)
-/
import Derived.Test.Qxb6500606aKUpTo
import Derived.Deep.Slices
import Derived.WideKeyArgs
namespace Go.Proofs.Qxb6500606a
open Go.ChangeShapes Go.WideShapes Go.ChangeAt Go.RowKit Go.Deep
set_option linter.unusedVariables false

theorem cells30 : Try.prog.cellsOf 30 = 6 := by kernel_rfl
theorem cells3 : Try.prog.cellsOf 3 = 1 := by kernel_rfl
theorem cells9 : Try.prog.cellsOf 9 = 1 := by kernel_rfl
def opFields : Array Field := #[{ name := "Kind", type := 3, offset := 0, embedded := false, tag := "", pkgPath := "", byteOffset := 0 }, { name := "A", type := 3, offset := 1, embedded := false, tag := "", pkgPath := "", byteOffset := 8 }, { name := "B", type := 3, offset := 2, embedded := false, tag := "", pkgPath := "", byteOffset := 16 }, { name := "C", type := 3, offset := 3, embedded := false, tag := "", pkgPath := "", byteOffset := 24 }, { name := "S", type := 9, offset := 4, embedded := false, tag := "", pkgPath := "", byteOffset := 32 }, { name := "T", type := 9, offset := 5, embedded := false, tag := "", pkgPath := "", byteOffset := 48 }]
theorem under30 : Try.prog.underlying 30 = some (.struct opFields) := Try.underlying30
theorem six {l : List Value} (h : l.length = 6) : ∃ a b c d e f, l = [a, b, c, d, e, f] := by
  match l, h with
  | [a, b, c, d, e, f], _ => exact ⟨a, b, c, d, e, f, rfl⟩
theorem script_open {H : Type} {enc : TypeId × Value → H} {W : World} {ad : Option Addr} {len cap : Nat} {d : DataW H} {p : List MemPlace}
    (h : DataW.Trod enc Try.prog W 0 (fun _ => true) true 22 (.slice ad len cap) d p) : ScriptAt W ad len := by
  obtain ⟨fuel, hf⟩ := h
  rcases open_slice Try.underlying22 hf with ⟨e, _⟩ | ⟨A, len', cap', m, n, D, Pl, e, hb, hl, hm, hmm, hx, hel⟩
  · simp [Value.cells] at e
    obtain ⟨rfl, rfl, rfl⟩ := e
    exact ⟨by omega, fun i hi => by omega⟩
  · simp [Value.cells] at e
    obtain ⟨rfl, rfl, rfl⟩ := e
    simp at hmm
    refine ⟨Nat.le_trans hl (Nat.le_trans hm (by decide)), fun i hi => ?_⟩
    have hspot : A.spot = none := by
      obtain ⟨cs0, h1, _⟩ := hel 0 (by omega)
      simp only [cells30] at h1
      obtain ⟨_, hlen, hcell⟩ := World.cells?_some h1
      have h0 := hcell 0 (by omega)
      rw [List.getElem?_eq_getElem (by omega)] at h0
      have := World.cell?_spot h0
      simpa [Addr.add] using this
    obtain ⟨B, o, sp⟩ := A
    simp only at hspot
    subst hspot
    obtain ⟨cs', h1, h2⟩ := hel i (by omega)
    simp only [cells30] at h1
    obtain ⟨_, hlen, hcell⟩ := World.cells?_some h1
    obtain ⟨xs, k, hk, hxy, _, hxl, hfs⟩ := DataW.trod_struct under30 h2
    obtain ⟨v0, v1, v2, v3, v4, v5, rfl⟩ := six hlen
    have hxl6 : xs.length = 6 := hxl
    have hsz : ∀ j, j < 6 → ∃ y, xs[j]? = some y := fun j hj => ⟨_, List.getElem?_eq_getElem (by rw [hxl6]; exact hj)⟩
    have gi : ∀ (j : Nat) (f : Field) (tt oo : Nat) (v : Value), j < 6 → opFields[j]? = some f → f.type = tt → f.offset = oo → (([v0, v1, v2, v3, v4, v5].drop oo).take (Try.prog.cellsOf tt) = [v]) → ∃ y, DataW.trod enc Try.prog W 0 (fun _ => true) true k tt [v] = some y := by
      intro j f tt oo v hj hf h1 h2 hv
      subst h1 h2
      obtain ⟨y, hy⟩ := hsz j hj
      have := hfs j f hf
      rw [hv, hy] at this
      exact ⟨y, this⟩
    obtain ⟨y0, g0⟩ := gi 0 _ 3 0 v0 (by omega) rfl rfl rfl (by simp only [cells3]; rfl)
    obtain ⟨y1, g1⟩ := gi 1 _ 3 1 v1 (by omega) rfl rfl rfl (by simp only [cells3]; rfl)
    obtain ⟨y2, g2⟩ := gi 2 _ 3 2 v2 (by omega) rfl rfl rfl (by simp only [cells3]; rfl)
    obtain ⟨y3, g3⟩ := gi 3 _ 3 3 v3 (by omega) rfl rfl rfl (by simp only [cells3]; rfl)
    obtain ⟨y4, g4⟩ := gi 4 _ 9 4 v4 (by omega) rfl rfl rfl (by simp only [cells9]; rfl)
    obtain ⟨y5, g5⟩ := gi 5 _ 9 5 v5 (by omega) rfl rfl rfl (by simp only [cells9]; rfl)
    obtain ⟨n0, c0, _, w0⟩ := DataW.trod_int Try.underlying3 g0
    obtain ⟨n1, c1, _, w1⟩ := DataW.trod_int Try.underlying3 g1
    obtain ⟨n2, c2, _, w2⟩ := DataW.trod_int Try.underlying3 g2
    obtain ⟨n3, c3, _, w3⟩ := DataW.trod_int Try.underlying3 g3
    obtain ⟨s4, c4, _⟩ := DataW.trod_string Try.underlying9 g4
    obtain ⟨s5, c5, _⟩ := DataW.trod_string Try.underlying9 g5
    cases c0
    cases c1
    cases c2
    cases c3
    cases c4
    cases c5
    have hBl : B < W.heap.size := by
      have hc0 := hcell 0 (by omega)
      rw [Addr.add_mid, Addr.add_mid] at hc0
      by_cases hlt : B < W.heap.size
      · exact hlt
      · simp [World.cell?, Array.getElem?_eq_none (by omega : W.heap.size ≤ B)] at hc0
    have hi64 : I64 n2 := by
      simp [Lit.wf] at w2
      exact w2
    refine ⟨B, o, n0, n1, n2, n3, s4.data.toList, s5.data.toList, rfl, hi64, hBl, fun j v hv => ?_⟩
    have hj : j < 6 := (List.getElem?_eq_some_iff.1 hv).1
    have hc := hcell j hj
    rw [Addr.add_mid, Addr.add_mid] at hc
    rw [hc]
    exact hv
end Go.Proofs.Qxb6500606a
