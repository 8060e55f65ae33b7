/-
  Keeps: Parts. (Seat 606 alone: type 54 is []string.)
-/
import Derived.Test.Qxb6500606aKEnd
namespace Go.Proofs.Qxb6500606a
open Go.ChangeShapes Go.WideShapes Go.ChangeAt Go.RowKit
attribute [local go_sem] str_size str_app str_app1 str_1app str_toList str_get
set_option linter.unusedVariables false

theorem infoS : (Try.prog.info? 9).map (fun i => (i.zero, i.size, i.bytes)) = some (some (.string { data := #[] }), 1, 16) := by kernel_rfl
/-- The texts of values, as strings. -/
def strs (l : List V) : List Value := l.map fun u => .string (str (text u))
/-- A slice of strings that was made behind base. -/
def Strs (w : World) (base : Nat) (sl : Value) (l : List V) : Prop := w.ownsRow base 9 1 sl l.length (strs l)

set_option maxHeartbeats 1000000 in
theorem parts_calls {v : V} (h : Wf v) (hc : canIter v = true) (hl : (text v).length ≤ 1000) (w : World) :
    Calls Try.prog 66 #[.string (str (text v))] w fun e w' => ∃ sl, e = .returned sl ∧ Strs w' w.heap.size sl (parts v) ∧ Below w.heap.size w w' := by
  obtain ⟨o, c, ho, hcl, htx, hps⟩ := text_parts h hc
  obtain ⟨iv, hiv, hz, hsz, hby⟩ := info_parts infoS
  have HPS : Hid (∀ e ∈ parts v, Wf e) := fun e he => (hps e he).1
  have HEQ : Hid (text v = [o] ++ (innerL (parts v) ++ [c])) := by rw [htx]; exact rfl
  have htl : 2 ≤ (text v).length := by rw [htx]; simp
  generalize hT : text v = t at *
  clear hT htx hps
  generalize hP : parts v = P at *
  go_enter Try.func66, Try.ntmps66
  go_wp2_with fail
  go_loopw [3, 4] (fun out x W => ∃ (done es : List V) (i : Nat), P = done ++ es ∧ x = .int .i64 i ∧ i ≤ 1000 ∧ done.length ≤ i ∧ Strs W w.heap.size out done ∧ Below w.heap.size w W ∧ ((es = [] ∧ t.length ≤ i + 1) ∨ ∃ p, i = p.length ∧ es ≠ [] ∧ t = p ++ (innerL es ++ [c]))) (fun out x W => t.length - (intOf x).toNat)
  case atStart =>
    refine ⟨[], P, 1, rfl, rfl, by omega, by simp, World.ownsRow_nil w _ _ _, Below.refl _ _, ?_⟩
    by_cases he : P = []
    · refine .inl ⟨he, ?_⟩
      rw [HEQ.out, he]; simp [innerL]
    · exact .inr ⟨[o], rfl, he, HEQ.out⟩
  case round =>
    obtain ⟨done, es, i, hP', rfl, hi, hdi, hout, hb, hcase⟩ := hrel
    rcases hcase with ⟨rfl, hle⟩ | ⟨p, rfl, hne, hX⟩
    · have hd : decide ((i : Int) < (t.length : Int) - 1) = false := decide_eq_false (by omega)
      have HO : Hid (Strs wr w.heap.size u3 P) := by rw [hP', List.append_nil]; exact hout
      clear hP' hout
      go_wp2
      go_ret
      exact ⟨_, rfl, HO.out, hb⟩
    · cases es with
      | nil => exact absurd rfl hne
      | cons e es' =>
        have hwe : Wf e := HPS.out e (by rw [hP']; simp)
        have hXX : t = p ++ (text e ++ (seps es' ++ [c])) := by rw [hX]; simp [innerL]
        have hlen : t.length = p.length + (text e).length + (seps es').length + 1 := by rw [hXX]; simp; omega
        have hpos : 0 < (text e).length := by
          obtain ⟨ch, rr, h1, _⟩ := text_head hwe (by omega)
          rw [h1]; simp
        have hend := end_calls hwe p (seps es' ++ [c]) wr (term_seps es' c hcl []) (by rw [← hXX]; omega)
        rw [← hXX] at hend
        replace hend := hide hend
        have hex : (str t).extract p.length (p.length + (text e).length) = str (text e) := by
          rw [hXX, str_extract, List.drop_left, Nat.add_sub_cancel_left, List.take_left]
        have hd : decide ((p.length : Int) < (t.length : Int) - 1) = true := decide_eq_true (by omega)
        have HNEXT : Hid (∃ (es2 : List V), P = (done ++ [e]) ++ es2 ∧ ((es2 = [] ∧ t.length ≤ (p.length + (text e).length + 1) + 1) ∨ ∃ p', p.length + (text e).length + 1 = p'.length ∧ es2 ≠ [] ∧ t = p' ++ (innerL es2 ++ [c]))) := by
          refine ⟨es', by rw [hP']; simp, ?_⟩
          cases es' with
          | nil => exact .inl ⟨rfl, by rw [hlen]; simp [seps]⟩
          | cons e2 es2 => exact .inr ⟨p ++ (text e ++ [32]), by simp; omega, by simp, by rw [hXX, seps_cons]; simp⟩
        have hle1 : p.length ≤ p.length + (text e).length := Nat.le_add_right _ _
        have hle2 : p.length + (text e).length ≤ t.length := by omega
        have hle4 : p.length + (text e).length + 1 ≤ t.length := by omega
        have hle3 : p.length + (text e).length ≤ 1000 := by omega
        have hdl : done.length ≤ 1000 := by omega
        have HOUT := hide hout
        clear hX hXX hlen hP' hout
        generalize hte : text e = te at *
        have HTE := hide hte
        generalize hpe : p.length + te.length = pe at *
        generalize p.length = pl at *
        clear hte hpe
        have HOWN : Hid ((wr.alloc (.cells #[.string (str te)] 9)).ownsRow w.heap.size 9 1 u3 done.length (strs done)) := ownsRow_below HOUT.out (below_alloc (Below.refl _ _))
        have HC1 : Hid (∀ j u, [Value.string (str te)][j]? = some u → (wr.alloc (.cells #[.string (str te)] 9)).cell? ((⟨wr.heap.size, 0, none⟩ : Addr).add j) = some u) := fun j u hj => by
          have hadd : (⟨wr.heap.size, 0, none⟩ : Addr).add j = ⟨wr.heap.size, j, none⟩ := by unfold Addr.add; split <;> simp_all
          rw [hadd]
          simp only [World.cell?, heap_alloc_new]
          simpa using hj
        have H1C : Hid (∀ u ∈ [Value.string (str te)], u.oneCell' = true) := fun u hu => by simp at hu; subst hu; rfl
        have hws := hb.size
        go_wp2_with (first | (go_at_call 84; refine hend.out.mono ?_; rintro ee w' ⟨rfl, hw⟩; subst w') | (refine wpList_append_own _ rfl _ _ 54 rfl w.heap.size 9 iv (.string { data := #[] }) 1 16 Try.underlying54 hiv hz hsz hby rfl (by decide) u3 done.length (strs done) rfl HOWN.out ⟨wr.heap.size, 0, none⟩ 1 1 [.string (str te)] rfl rfl HC1.out H1C.out (by unfold maxLen; omega) (by omega) (by simp; omega) ?_; intro v' w2 ho2 gr2 _))
        obtain ⟨es2, h1, h2⟩ := HNEXT.out
        refine ⟨⟨done ++ [e], es2, pe + 1, h1, by go_num, by omega, by simp; omega, ?_, below_grown (below_alloc hb) gr2 (fun k hk => (HOWN.out.lt k hk).1), h2⟩, by simp [intOf]; omega⟩
        show w2.ownsRow w.heap.size 9 1 v' (done ++ [e]).length (strs (done ++ [e]))
        have e1 : strs (done ++ [e]) = strs done ++ [.string (str te)] := by unfold strs; rw [List.map_append, ← HTE.out]; rfl
        rw [e1, List.length_append]
        exact ho2
end Go.Proofs.Qxb6500606a
