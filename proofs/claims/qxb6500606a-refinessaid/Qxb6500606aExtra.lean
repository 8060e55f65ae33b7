/-
  Extra: the boundary.
-/
import Derived.Test.Qxb6500606aRescue
import Derived.Laws.CopyOwn
import Derived.Laws.EntriesVeiled
import Derived.Deep.OwnRows
namespace Go.Proofs.Qxb6500606a
open Go.ChangeShapes Go.WideShapes Go.ChangeAt Go.RowKit Go.Shelf
set_option linter.unusedVariables false

theorem IsStack.mark {w : World} {s : Nat} {g : Option Nat} {busy : Bool} {vs : List V} {a : Option Addr} {cap : Nat} {xs : List Value} (h : IsStack w s g busy vs a cap xs) (b : Bool) :
    IsStack (w.setCell ⟨s, 1, none⟩ (.bool b)) s g b vs a cap xs ∧ Only (own s g) w (w.setCell ⟨s, 1, none⟩ (.bool b)) := by
  have ho : Only (own s g) w (w.setCell ⟨s, 1, none⟩ (.bool b)) := (Only.refl _ w).setCell (.inl (.inl rfl)) _
  refine ⟨⟨?_, ⟨h.row.1, ?_⟩, h.arr, h.reps.keep (h.keepsV ho)⟩, ho⟩
  · rw [heap_setCell_same w s 1 _ _ _ h.head]; rfl
  · rcases h.row.2 with hn | ⟨g', cap', cur, h1, h2, h3, h4⟩
    · exact .inl hn
    · refine .inr ⟨g', cap', cur, h1, h2, (Below.heap_setCell w _ _ g' ?_).trans h3, h4⟩
      exact h.ne (by rw [← h.arr, h1]; rfl)
/-- The kept values are laid back. -/
theorem laid_back {W : World} {s K : Nat} {it : Value} {b : Bool} {vs : List V} {xs : List Value} (hs : W.heap[s]? = some (.cells #[it, .bool b] 46)) (hK : W.heap[K]? = some (.cells xs.toArray 60)) (hr : RepAll W vs xs) (h5 : vs.length ≤ 5) :
    Stk ((W.setCell ⟨s, 1, none⟩ (.bool false)).setCell ⟨s, 0, none⟩ (.slice (some ⟨K, 0, none⟩) vs.length vs.length)) s (some K) false vs := by
  have hlen := hr.length
  have hne : K ≠ s := by rintro rfl; rw [hs] at hK; simp at hK
  have e1 : (W.setCell ⟨s, 1, none⟩ (.bool false)).heap[s]? = some (.cells #[it, .bool false] 46) := by rw [heap_setCell_same W s 1 _ _ _ hs]; rfl
  have e2 : ((W.setCell ⟨s, 1, none⟩ (.bool false)).setCell ⟨s, 0, none⟩ (.slice (some ⟨K, 0, none⟩) vs.length vs.length)).heap[s]? = some (.cells #[.slice (some ⟨K, 0, none⟩) vs.length vs.length, .bool false] 46) := by rw [heap_setCell_same _ s 0 _ _ _ e1]; rfl
  have e3 : ((W.setCell ⟨s, 1, none⟩ (.bool false)).setCell ⟨s, 0, none⟩ (.slice (some ⟨K, 0, none⟩) vs.length vs.length)).heap[K]? = some (.cells xs.toArray 60) := by
    rw [Below.heap_setCell _ _ _ K hne, Below.heap_setCell _ _ _ K hne]; exact hK
  have hkv : KeepsV W ((W.setCell ⟨s, 1, none⟩ (.bool false)).setCell ⟨s, 0, none⟩ (.slice (some ⟨K, 0, none⟩) vs.length vs.length)) := by
    intro b' c t ht e
    by_cases hb : b' = s
    · subst hb; rw [hs] at e; simp at e; obtain ⟨_, rfl⟩ := e; exact absurd ht (by unfold still; decide)
    · rw [Below.heap_setCell _ _ _ b' hb, Below.heap_setCell _ _ _ b' hb]; exact e
  refine ⟨some ⟨K, 0, none⟩, vs.length, xs, ⟨e2, ⟨by omega, .inr ⟨K, vs.length, xs.toArray, rfl, Nat.zero_le _, e3, Nat.le_refl _, by unfold maxLen; omega, by simp; omega, by simp only [Nat.mul_one]; rw [← hlen, List.take_length]⟩⟩, rfl, hr.keep hkv⟩⟩

theorem Moved.mark {w W : World} {s : Nat} {g : Option Nat} {busy : Bool} {vs : St} (hm : Moved w s g busy vs W) (b : Bool) : Moved w s g b vs (W.setCell ⟨s, 1, none⟩ (.bool b)) := by
  obtain ⟨g', ⟨a, cap, xs, h⟩, hg, ho⟩ := hm
  exact ⟨g', ⟨a, cap, xs, (h.mark b).1⟩, hg, ho.setCell (.inl (.inl rfl)) _⟩
theorem Moved.head {w W : World} {s : Nat} {g : Option Nat} {busy : Bool} {vs : St} (hm : Moved w s g busy vs W) : ∃ it, W.heap[s]? = some (.cells #[it, .bool busy] 46) := by
  obtain ⟨g', ⟨a, cap, xs, h⟩, hg, ho⟩ := hm
  exact ⟨_, h.head⟩
theorem some_func (f : FuncId) (W : World) : (binOp .eql 108 (.func (.func f) #[] #[]) .nilFunc).run Try.prog W = .ok (.bool false) W := by kernel_rfl
theorem no_func (W : World) : (binOp .eql 108 .nilFunc .nilFunc).run Try.prog W = .ok (.bool true) W := by kernel_rfl
theorem size46 : (Try.prog.info? 60).map (·.size) = some 1 := by kernel_rfl

section
variable {w : World} {s : Nat} {g : Option Nat} {vs : List V}
set_option maxHeartbeats 1000000 in
theorem extra_word0 (h : Stk w s g false vs) (hok : Okay vs) (r : Int × St) (hw : ∀ W, Stk W s g true vs → Calls Try.prog 76 #[.pointer (some ⟨s, 0, none⟩)] W (WordOut W s g vs r)) :
    Calls Try.prog 48 #[.pointer (some ⟨s, 0, none⟩), .int .i64 0] w fun e w' => e = .returned (.int .i64 r.1) ∧ Moved w s g false r.2 w' := by
  have hS := h
  obtain ⟨a, cap, xs, h⟩ := h
  have c0 := h.c0
  have c1 := h.c1
  have z0 := h.z 0
  have z1 := h.z 1
  have hlt := lt_of_heap h.head
  have hn5 := hok.1
  have HH := hide h
  have HS := hide hS
  have hxl : xs.length = vs.length := h.reps.length
  clear h hS
  obtain ⟨iv, hiv, hz, hsz, hby⟩ := info_parts infoV
  generalize hvn : vs.length = n at *
  have HN := hide hvn
  clear hvn
  have hef := some_func
  obtain ⟨W2, HW2⟩ : ∃ W2, Hid (W2 = ((w.alloc (.cells #[.int .i64 0] 25)).alloc (.cells #[.func (.func 76) #[] #[], .nilFunc, .func (.func 77) #[] #[], .func (.func 78) #[] #[], .func (.func 79) #[] #[]] 109))) := ⟨_, rfl⟩
  have hB2 : Below w.heap.size w W2 := by rw [HW2.out]; exact below_alloc (below_alloc (Below.refl _ _))
  have hs2 : W2.heap.size = w.heap.size + 2 := by rw [HW2.out]; simp
  have hE2 : W2.heap[w.heap.size]? = some (.cells #[.int .i64 0] 25) := by rw [HW2.out]; exact heap_alloc2_old w _ _
  obtain ⟨W3, HW3⟩ : ∃ W3, Hid (W3 = W2.alloc (.cells (madeCells #[.nilIface] n) 60)) := ⟨_, rfl⟩
  have hB23 : Below (w.heap.size + 2) W2 W3 := by rw [HW3.out]; exact (Below.refl _ _).alloc (by omega) _
  have hB3 : Below w.heap.size w W3 := hB2.trans (hB23.mono (by omega))
  have HK3 : Hid (W3.heap[w.heap.size + 2]? = some (.cells (madeCells #[.nilIface] n).toList.toArray 60)) := by rw [HW3.out, ← hs2]; exact heap_alloc_new _ _
  have H3 := hide (HH.out.below hB3)
  have c03 := H3.out.c0
  rw [HN.out] at c03
  have HCP : Hid (0 < xs.length → some (⟨w.heap.size + 2, 0, none⟩ : Addr) = some ⟨w.heap.size + 2, 0, none⟩ ∧ ∃ ad, a = some ad ∧ ∀ j v, xs[j]? = some v → W3.cell? (ad.add j) = some v) := fun h0 => by
    obtain ⟨b, h1, _, h2⟩ := H3.out.opened (by have := HN.out; omega)
    refine ⟨rfl, _, h1, fun j v hv => ?_⟩
    have hadd : (⟨b, 0, none⟩ : Addr).add j = ⟨b, j, none⟩ := by unfold Addr.add; split <;> simp_all
    rw [hadd]; exact h2 j v hv
  have HONE : Hid (∀ v ∈ xs, v.oneCell' = true) := fun v hv => by
    obtain ⟨j, hj⟩ := List.getElem?_of_mem hv
    obtain ⟨u, _, hu⟩ := H3.out.reps.val hj
    obtain ⟨T, y, rfl⟩ := hu.iface
    rfl
  have HE2 := hide hE2
  clear hE2
  have HSPL : Hid (splice (madeCells #[.nilIface] n).toList 0 xs = xs) := by
    have hm : (madeCells #[Value.nilIface] n).toList.length = n := by simpa using size_madeCells #[Value.nilIface] n
    show _ = _
    unfold splice
    simp only [List.take_zero, List.nil_append, Nat.zero_add]
    rw [List.drop_eq_nil_of_le (by omega), List.append_nil]
  have HML : Hid (0 + xs.length ≤ (madeCells #[Value.nilIface] n).toList.length) := by
    have hm : (madeCells #[Value.nilIface] n).toList.length = n := by simpa using size_madeCells #[Value.nilIface] n
    show _ ≤ _
    omega
  clear c1 z0 z1
  have HWORD : Hid (∀ w4, Below w.heap.size w w4 → Calls Try.prog 76 #[.pointer (some ⟨s, 0, none⟩)] (w4.setCell ⟨s, 1, none⟩ (.bool true)) (WordOut (w4.setCell ⟨s, 1, none⟩ (.bool true)) s g vs r)) := fun w4 hb => hw _ ⟨a, cap, xs, ((HH.out.below hb).mark true).1⟩
  clear hw
  go_enter_defers Try.func48, Try.ntmps48
  go_wp2_with (first | (rw [← HW2.out]; refine wpList_make_row _ rfl _ _ 44 rfl 60 iv .nilIface Try.underlying44 hiv hz hsz rfl .i64 .i64 n rfl rfl ?_ ?_ ?_; (· rw [hby]; omega); (· omega); rw [← HW3.out]) | (refine wpList_copy_splice rfl _ _ 44 44 rfl 60 Try.underlying44 size46 _ _ _ _ _ _ rfl rfl (w.heap.size + 2) 0 (madeCells #[.nilIface] n).toList 60 HK3.out xs (by rw [hxl]; exact (Nat.min_self n).symm) HCP.out HML.out HONE.out (w.heap.size + 2) W2 hB23 (Nat.le_refl _) ?_; intro w4 HK4 hb24; have hb4 := hB2.trans (hb24.mono (by omega)); have c14 := (HH.out.below hb4).c1; have z14 := (HH.out.below hb4).z 1))
  refine (HWORD.out _ hb4).mono ?_
  have hE4 : w4.heap[w.heap.size]? = some (.cells #[.int .i64 0] 25) := (hb24.block _ (by omega)).trans HE2.out
  have hE5 : (w4.setCell ⟨s, 1, none⟩ (.bool true)).heap[w.heap.size]? = some (.cells #[.int .i64 0] 25) := (Below.heap_setCell w4 _ _ w.heap.size (by show w.heap.size ≠ s; omega)).trans hE4
  have hK5 : (w4.setCell ⟨s, 1, none⟩ (.bool true)).heap[w.heap.size + 2]? = some (.cells xs.toArray 60) := (Below.heap_setCell w4 _ _ (w.heap.size + 2) (by show w.heap.size + 2 ≠ s; omega)).trans (by rw [← HSPL.out]; exact HK4.out)
  have hS5 : Stk (w4.setCell ⟨s, 1, none⟩ (.bool true)) s g true vs := ⟨a, cap, xs, ((HH.out.below hb4).mark true).1⟩
  have hO5 : Only (own s g) w (w4.setCell ⟨s, 1, none⟩ (.bool true)) := (Only.of_below hb4).setCell (.inl (.inl rfl)) _
  rintro e W6 (⟨rfl, hr0, hm⟩ | ⟨v, vs', rfl, hr0, hrv, hth, hm⟩)
  · have HE6 := hide (hm.keepsBlock hS5 hE5 (by decide) (by decide))
    have hm6 : Moved w s g true r.2 W6 := Moved.then (fun b hb => .inl hb) hO5 hm
    obtain ⟨it, hhd⟩ := hm6.head
    have HHD := hide hhd
    obtain ⟨cE, zE⟩ := cell_of_heap HE6.out
    have HR0 := hide hr0
    clear hE4 hE5 hK5 hS5 hm hhd hr0
    go_wp2
    refine leaves_cons (f := 80) (args := #[.pointer (some ⟨s, 0, none⟩), .slice (some ⟨w.heap.size + 2, 0, none⟩) n n, .pointer (some ⟨w.heap.size, 0, none⟩)]) (by simp) (by simp [go_sem]) ?_
    refine (rescue_quiet HHD.out _ _).mono ?_
    rintro e u' w7 ⟨rfl, rfl, rfl⟩
    refine ⟨_, results_cell1 rfl _ _ _ _ rfl (cell_of_heap ((Below.heap_setCell W6 _ _ w.heap.size (by show w.heap.size ≠ s; omega)).trans HE6.out)).1, by rw [HR0.out], hm6.mark false⟩
  · have hE6 := hm.keepsBlock hS5 hE5 (by decide) (by decide)
    have hK6 : W6.heap[w.heap.size + 2]? = some (.cells xs.toArray 60) := by
      obtain ⟨g', _, _, ho⟩ := hm
      refine (ho.block _ (lt_of_heap hK5) fun hown => ?_).trans hK5
      obtain ⟨c, t, h1, _⟩ := own_tag HH.out hown
      have := lt_of_heap h1
      omega
    have hO6 : Only (own s g) w W6 := by
      obtain ⟨g', _, _, ho⟩ := hm
      exact hO5.trans ho (fun i hi => .inl hi)
    have hR6 : RepAll W6 vs xs := HH.out.reps.keep (HH.out.keepsV hO6)
    obtain ⟨it, hhd⟩ := hm.head
    refine leaves_cons (f := 80) (args := #[.pointer (some ⟨s, 0, none⟩), .slice (some ⟨w.heap.size + 2, 0, none⟩) n n, .pointer (some ⟨w.heap.size, 0, none⟩)]) (by simp) (by simp [go_sem]) ?_
    refine (rescue_threw hhd hE6 hth _ _ _).mono ?_
    rintro e u' w7 ⟨rfl, rfl, rfl⟩
    have hlb := laid_back hhd hK6 hR6 (by rw [HN.out]; exact hn5)
    rw [HN.out] at hlb
    have hne : w.heap.size ≠ s := by omega
    have hE7 : ((W6.setCell ⟨s, 1, none⟩ (.bool false)).setCell ⟨s, 0, none⟩ (.slice (some ⟨w.heap.size + 2, 0, none⟩) n n)).heap[w.heap.size]? = some (.cells #[.int .i64 0] 25) := by
      rw [Below.heap_setCell _ _ _ w.heap.size hne, Below.heap_setCell _ _ _ w.heap.size hne]; exact hE6
    have hmv : Moved w s g false vs ((W6.setCell ⟨s, 1, none⟩ (.bool false)).setCell ⟨s, 0, none⟩ (.slice (some ⟨w.heap.size + 2, 0, none⟩) n n)) :=
      ⟨some (w.heap.size + 2), hlb, fun b hb => .inr (by cases hb; omega), (hO6.setCell (.inl (.inl rfl)) _).setCell (.inl (.inl rfl)) _⟩
    refine ⟨_, results_cell1 rfl _ _ _ _ rfl (cell_of_heap (heap_set hE7 _)).1, rfl, ?_⟩
    rw [hrv]
    exact hmv.set (Nat.le_refl _) hE7 (by decide) (by decide) nStill22
set_option maxHeartbeats 1000000 in
theorem extra_word2 (h : Stk w s g false vs) (hok : Okay vs) (r : Int × St) (hw : ∀ W, Stk W s g true vs → Calls Try.prog 77 #[.pointer (some ⟨s, 0, none⟩)] W (WordOut W s g vs r)) :
    Calls Try.prog 48 #[.pointer (some ⟨s, 0, none⟩), .int .i64 2] w fun e w' => e = .returned (.int .i64 r.1) ∧ Moved w s g false r.2 w' := by
  have hS := h
  obtain ⟨a, cap, xs, h⟩ := h
  have c0 := h.c0
  have c1 := h.c1
  have z0 := h.z 0
  have z1 := h.z 1
  have hlt := lt_of_heap h.head
  have hn5 := hok.1
  have HH := hide h
  have HS := hide hS
  have hxl : xs.length = vs.length := h.reps.length
  clear h hS
  obtain ⟨iv, hiv, hz, hsz, hby⟩ := info_parts infoV
  generalize hvn : vs.length = n at *
  have HN := hide hvn
  clear hvn
  have hef := some_func
  obtain ⟨W2, HW2⟩ : ∃ W2, Hid (W2 = ((w.alloc (.cells #[.int .i64 0] 25)).alloc (.cells #[.func (.func 76) #[] #[], .nilFunc, .func (.func 77) #[] #[], .func (.func 78) #[] #[], .func (.func 79) #[] #[]] 109))) := ⟨_, rfl⟩
  have hB2 : Below w.heap.size w W2 := by rw [HW2.out]; exact below_alloc (below_alloc (Below.refl _ _))
  have hs2 : W2.heap.size = w.heap.size + 2 := by rw [HW2.out]; simp
  have hE2 : W2.heap[w.heap.size]? = some (.cells #[.int .i64 0] 25) := by rw [HW2.out]; exact heap_alloc2_old w _ _
  obtain ⟨W3, HW3⟩ : ∃ W3, Hid (W3 = W2.alloc (.cells (madeCells #[.nilIface] n) 60)) := ⟨_, rfl⟩
  have hB23 : Below (w.heap.size + 2) W2 W3 := by rw [HW3.out]; exact (Below.refl _ _).alloc (by omega) _
  have hB3 : Below w.heap.size w W3 := hB2.trans (hB23.mono (by omega))
  have HK3 : Hid (W3.heap[w.heap.size + 2]? = some (.cells (madeCells #[.nilIface] n).toList.toArray 60)) := by rw [HW3.out, ← hs2]; exact heap_alloc_new _ _
  have H3 := hide (HH.out.below hB3)
  have c03 := H3.out.c0
  rw [HN.out] at c03
  have HCP : Hid (0 < xs.length → some (⟨w.heap.size + 2, 0, none⟩ : Addr) = some ⟨w.heap.size + 2, 0, none⟩ ∧ ∃ ad, a = some ad ∧ ∀ j v, xs[j]? = some v → W3.cell? (ad.add j) = some v) := fun h0 => by
    obtain ⟨b, h1, _, h2⟩ := H3.out.opened (by have := HN.out; omega)
    refine ⟨rfl, _, h1, fun j v hv => ?_⟩
    have hadd : (⟨b, 0, none⟩ : Addr).add j = ⟨b, j, none⟩ := by unfold Addr.add; split <;> simp_all
    rw [hadd]; exact h2 j v hv
  have HONE : Hid (∀ v ∈ xs, v.oneCell' = true) := fun v hv => by
    obtain ⟨j, hj⟩ := List.getElem?_of_mem hv
    obtain ⟨u, _, hu⟩ := H3.out.reps.val hj
    obtain ⟨T, y, rfl⟩ := hu.iface
    rfl
  have HE2 := hide hE2
  clear hE2
  have HSPL : Hid (splice (madeCells #[.nilIface] n).toList 0 xs = xs) := by
    have hm : (madeCells #[Value.nilIface] n).toList.length = n := by simpa using size_madeCells #[Value.nilIface] n
    show _ = _
    unfold splice
    simp only [List.take_zero, List.nil_append, Nat.zero_add]
    rw [List.drop_eq_nil_of_le (by omega), List.append_nil]
  have HML : Hid (0 + xs.length ≤ (madeCells #[Value.nilIface] n).toList.length) := by
    have hm : (madeCells #[Value.nilIface] n).toList.length = n := by simpa using size_madeCells #[Value.nilIface] n
    show _ ≤ _
    omega
  clear c1 z0 z1
  have HWORD : Hid (∀ w4, Below w.heap.size w w4 → Calls Try.prog 77 #[.pointer (some ⟨s, 0, none⟩)] (w4.setCell ⟨s, 1, none⟩ (.bool true)) (WordOut (w4.setCell ⟨s, 1, none⟩ (.bool true)) s g vs r)) := fun w4 hb => hw _ ⟨a, cap, xs, ((HH.out.below hb).mark true).1⟩
  clear hw
  go_enter_defers Try.func48, Try.ntmps48
  go_wp2_with (first | (rw [← HW2.out]; refine wpList_make_row _ rfl _ _ 44 rfl 60 iv .nilIface Try.underlying44 hiv hz hsz rfl .i64 .i64 n rfl rfl ?_ ?_ ?_; (· rw [hby]; omega); (· omega); rw [← HW3.out]) | (refine wpList_copy_splice rfl _ _ 44 44 rfl 60 Try.underlying44 size46 _ _ _ _ _ _ rfl rfl (w.heap.size + 2) 0 (madeCells #[.nilIface] n).toList 60 HK3.out xs (by rw [hxl]; exact (Nat.min_self n).symm) HCP.out HML.out HONE.out (w.heap.size + 2) W2 hB23 (Nat.le_refl _) ?_; intro w4 HK4 hb24; have hb4 := hB2.trans (hb24.mono (by omega)); have c14 := (HH.out.below hb4).c1; have z14 := (HH.out.below hb4).z 1))
  refine (HWORD.out _ hb4).mono ?_
  have hE4 : w4.heap[w.heap.size]? = some (.cells #[.int .i64 0] 25) := (hb24.block _ (by omega)).trans HE2.out
  have hE5 : (w4.setCell ⟨s, 1, none⟩ (.bool true)).heap[w.heap.size]? = some (.cells #[.int .i64 0] 25) := (Below.heap_setCell w4 _ _ w.heap.size (by show w.heap.size ≠ s; omega)).trans hE4
  have hK5 : (w4.setCell ⟨s, 1, none⟩ (.bool true)).heap[w.heap.size + 2]? = some (.cells xs.toArray 60) := (Below.heap_setCell w4 _ _ (w.heap.size + 2) (by show w.heap.size + 2 ≠ s; omega)).trans (by rw [← HSPL.out]; exact HK4.out)
  have hS5 : Stk (w4.setCell ⟨s, 1, none⟩ (.bool true)) s g true vs := ⟨a, cap, xs, ((HH.out.below hb4).mark true).1⟩
  have hO5 : Only (own s g) w (w4.setCell ⟨s, 1, none⟩ (.bool true)) := (Only.of_below hb4).setCell (.inl (.inl rfl)) _
  rintro e W6 (⟨rfl, hr0, hm⟩ | ⟨v, vs', rfl, hr0, hrv, hth, hm⟩)
  · have HE6 := hide (hm.keepsBlock hS5 hE5 (by decide) (by decide))
    have hm6 : Moved w s g true r.2 W6 := Moved.then (fun b hb => .inl hb) hO5 hm
    obtain ⟨it, hhd⟩ := hm6.head
    have HHD := hide hhd
    obtain ⟨cE, zE⟩ := cell_of_heap HE6.out
    have HR0 := hide hr0
    clear hE4 hE5 hK5 hS5 hm hhd hr0
    go_wp2
    refine leaves_cons (f := 80) (args := #[.pointer (some ⟨s, 0, none⟩), .slice (some ⟨w.heap.size + 2, 0, none⟩) n n, .pointer (some ⟨w.heap.size, 0, none⟩)]) (by simp) (by simp [go_sem]) ?_
    refine (rescue_quiet HHD.out _ _).mono ?_
    rintro e u' w7 ⟨rfl, rfl, rfl⟩
    refine ⟨_, results_cell1 rfl _ _ _ _ rfl (cell_of_heap ((Below.heap_setCell W6 _ _ w.heap.size (by show w.heap.size ≠ s; omega)).trans HE6.out)).1, by rw [HR0.out], hm6.mark false⟩
  · have hE6 := hm.keepsBlock hS5 hE5 (by decide) (by decide)
    have hK6 : W6.heap[w.heap.size + 2]? = some (.cells xs.toArray 60) := by
      obtain ⟨g', _, _, ho⟩ := hm
      refine (ho.block _ (lt_of_heap hK5) fun hown => ?_).trans hK5
      obtain ⟨c, t, h1, _⟩ := own_tag HH.out hown
      have := lt_of_heap h1
      omega
    have hO6 : Only (own s g) w W6 := by
      obtain ⟨g', _, _, ho⟩ := hm
      exact hO5.trans ho (fun i hi => .inl hi)
    have hR6 : RepAll W6 vs xs := HH.out.reps.keep (HH.out.keepsV hO6)
    obtain ⟨it, hhd⟩ := hm.head
    refine leaves_cons (f := 80) (args := #[.pointer (some ⟨s, 0, none⟩), .slice (some ⟨w.heap.size + 2, 0, none⟩) n n, .pointer (some ⟨w.heap.size, 0, none⟩)]) (by simp) (by simp [go_sem]) ?_
    refine (rescue_threw hhd hE6 hth _ _ _).mono ?_
    rintro e u' w7 ⟨rfl, rfl, rfl⟩
    have hlb := laid_back hhd hK6 hR6 (by rw [HN.out]; exact hn5)
    rw [HN.out] at hlb
    have hne : w.heap.size ≠ s := by omega
    have hE7 : ((W6.setCell ⟨s, 1, none⟩ (.bool false)).setCell ⟨s, 0, none⟩ (.slice (some ⟨w.heap.size + 2, 0, none⟩) n n)).heap[w.heap.size]? = some (.cells #[.int .i64 0] 25) := by
      rw [Below.heap_setCell _ _ _ w.heap.size hne, Below.heap_setCell _ _ _ w.heap.size hne]; exact hE6
    have hmv : Moved w s g false vs ((W6.setCell ⟨s, 1, none⟩ (.bool false)).setCell ⟨s, 0, none⟩ (.slice (some ⟨w.heap.size + 2, 0, none⟩) n n)) :=
      ⟨some (w.heap.size + 2), hlb, fun b hb => .inr (by cases hb; omega), (hO6.setCell (.inl (.inl rfl)) _).setCell (.inl (.inl rfl)) _⟩
    refine ⟨_, results_cell1 rfl _ _ _ _ rfl (cell_of_heap (heap_set hE7 _)).1, rfl, ?_⟩
    rw [hrv]
    exact hmv.set (Nat.le_refl _) hE7 (by decide) (by decide) nStill22
set_option maxHeartbeats 1000000 in
theorem extra_word3 (h : Stk w s g false vs) (hok : Okay vs) (r : Int × St) (hw : ∀ W, Stk W s g true vs → Calls Try.prog 78 #[.pointer (some ⟨s, 0, none⟩)] W (WordOut W s g vs r)) :
    Calls Try.prog 48 #[.pointer (some ⟨s, 0, none⟩), .int .i64 3] w fun e w' => e = .returned (.int .i64 r.1) ∧ Moved w s g false r.2 w' := by
  have hS := h
  obtain ⟨a, cap, xs, h⟩ := h
  have c0 := h.c0
  have c1 := h.c1
  have z0 := h.z 0
  have z1 := h.z 1
  have hlt := lt_of_heap h.head
  have hn5 := hok.1
  have HH := hide h
  have HS := hide hS
  have hxl : xs.length = vs.length := h.reps.length
  clear h hS
  obtain ⟨iv, hiv, hz, hsz, hby⟩ := info_parts infoV
  generalize hvn : vs.length = n at *
  have HN := hide hvn
  clear hvn
  have hef := some_func
  obtain ⟨W2, HW2⟩ : ∃ W2, Hid (W2 = ((w.alloc (.cells #[.int .i64 0] 25)).alloc (.cells #[.func (.func 76) #[] #[], .nilFunc, .func (.func 77) #[] #[], .func (.func 78) #[] #[], .func (.func 79) #[] #[]] 109))) := ⟨_, rfl⟩
  have hB2 : Below w.heap.size w W2 := by rw [HW2.out]; exact below_alloc (below_alloc (Below.refl _ _))
  have hs2 : W2.heap.size = w.heap.size + 2 := by rw [HW2.out]; simp
  have hE2 : W2.heap[w.heap.size]? = some (.cells #[.int .i64 0] 25) := by rw [HW2.out]; exact heap_alloc2_old w _ _
  obtain ⟨W3, HW3⟩ : ∃ W3, Hid (W3 = W2.alloc (.cells (madeCells #[.nilIface] n) 60)) := ⟨_, rfl⟩
  have hB23 : Below (w.heap.size + 2) W2 W3 := by rw [HW3.out]; exact (Below.refl _ _).alloc (by omega) _
  have hB3 : Below w.heap.size w W3 := hB2.trans (hB23.mono (by omega))
  have HK3 : Hid (W3.heap[w.heap.size + 2]? = some (.cells (madeCells #[.nilIface] n).toList.toArray 60)) := by rw [HW3.out, ← hs2]; exact heap_alloc_new _ _
  have H3 := hide (HH.out.below hB3)
  have c03 := H3.out.c0
  rw [HN.out] at c03
  have HCP : Hid (0 < xs.length → some (⟨w.heap.size + 2, 0, none⟩ : Addr) = some ⟨w.heap.size + 2, 0, none⟩ ∧ ∃ ad, a = some ad ∧ ∀ j v, xs[j]? = some v → W3.cell? (ad.add j) = some v) := fun h0 => by
    obtain ⟨b, h1, _, h2⟩ := H3.out.opened (by have := HN.out; omega)
    refine ⟨rfl, _, h1, fun j v hv => ?_⟩
    have hadd : (⟨b, 0, none⟩ : Addr).add j = ⟨b, j, none⟩ := by unfold Addr.add; split <;> simp_all
    rw [hadd]; exact h2 j v hv
  have HONE : Hid (∀ v ∈ xs, v.oneCell' = true) := fun v hv => by
    obtain ⟨j, hj⟩ := List.getElem?_of_mem hv
    obtain ⟨u, _, hu⟩ := H3.out.reps.val hj
    obtain ⟨T, y, rfl⟩ := hu.iface
    rfl
  have HE2 := hide hE2
  clear hE2
  have HSPL : Hid (splice (madeCells #[.nilIface] n).toList 0 xs = xs) := by
    have hm : (madeCells #[Value.nilIface] n).toList.length = n := by simpa using size_madeCells #[Value.nilIface] n
    show _ = _
    unfold splice
    simp only [List.take_zero, List.nil_append, Nat.zero_add]
    rw [List.drop_eq_nil_of_le (by omega), List.append_nil]
  have HML : Hid (0 + xs.length ≤ (madeCells #[Value.nilIface] n).toList.length) := by
    have hm : (madeCells #[Value.nilIface] n).toList.length = n := by simpa using size_madeCells #[Value.nilIface] n
    show _ ≤ _
    omega
  clear c1 z0 z1
  have HWORD : Hid (∀ w4, Below w.heap.size w w4 → Calls Try.prog 78 #[.pointer (some ⟨s, 0, none⟩)] (w4.setCell ⟨s, 1, none⟩ (.bool true)) (WordOut (w4.setCell ⟨s, 1, none⟩ (.bool true)) s g vs r)) := fun w4 hb => hw _ ⟨a, cap, xs, ((HH.out.below hb).mark true).1⟩
  clear hw
  go_enter_defers Try.func48, Try.ntmps48
  go_wp2_with (first | (rw [← HW2.out]; refine wpList_make_row _ rfl _ _ 44 rfl 60 iv .nilIface Try.underlying44 hiv hz hsz rfl .i64 .i64 n rfl rfl ?_ ?_ ?_; (· rw [hby]; omega); (· omega); rw [← HW3.out]) | (refine wpList_copy_splice rfl _ _ 44 44 rfl 60 Try.underlying44 size46 _ _ _ _ _ _ rfl rfl (w.heap.size + 2) 0 (madeCells #[.nilIface] n).toList 60 HK3.out xs (by rw [hxl]; exact (Nat.min_self n).symm) HCP.out HML.out HONE.out (w.heap.size + 2) W2 hB23 (Nat.le_refl _) ?_; intro w4 HK4 hb24; have hb4 := hB2.trans (hb24.mono (by omega)); have c14 := (HH.out.below hb4).c1; have z14 := (HH.out.below hb4).z 1))
  refine (HWORD.out _ hb4).mono ?_
  have hE4 : w4.heap[w.heap.size]? = some (.cells #[.int .i64 0] 25) := (hb24.block _ (by omega)).trans HE2.out
  have hE5 : (w4.setCell ⟨s, 1, none⟩ (.bool true)).heap[w.heap.size]? = some (.cells #[.int .i64 0] 25) := (Below.heap_setCell w4 _ _ w.heap.size (by show w.heap.size ≠ s; omega)).trans hE4
  have hK5 : (w4.setCell ⟨s, 1, none⟩ (.bool true)).heap[w.heap.size + 2]? = some (.cells xs.toArray 60) := (Below.heap_setCell w4 _ _ (w.heap.size + 2) (by show w.heap.size + 2 ≠ s; omega)).trans (by rw [← HSPL.out]; exact HK4.out)
  have hS5 : Stk (w4.setCell ⟨s, 1, none⟩ (.bool true)) s g true vs := ⟨a, cap, xs, ((HH.out.below hb4).mark true).1⟩
  have hO5 : Only (own s g) w (w4.setCell ⟨s, 1, none⟩ (.bool true)) := (Only.of_below hb4).setCell (.inl (.inl rfl)) _
  rintro e W6 (⟨rfl, hr0, hm⟩ | ⟨v, vs', rfl, hr0, hrv, hth, hm⟩)
  · have HE6 := hide (hm.keepsBlock hS5 hE5 (by decide) (by decide))
    have hm6 : Moved w s g true r.2 W6 := Moved.then (fun b hb => .inl hb) hO5 hm
    obtain ⟨it, hhd⟩ := hm6.head
    have HHD := hide hhd
    obtain ⟨cE, zE⟩ := cell_of_heap HE6.out
    have HR0 := hide hr0
    clear hE4 hE5 hK5 hS5 hm hhd hr0
    go_wp2
    refine leaves_cons (f := 80) (args := #[.pointer (some ⟨s, 0, none⟩), .slice (some ⟨w.heap.size + 2, 0, none⟩) n n, .pointer (some ⟨w.heap.size, 0, none⟩)]) (by simp) (by simp [go_sem]) ?_
    refine (rescue_quiet HHD.out _ _).mono ?_
    rintro e u' w7 ⟨rfl, rfl, rfl⟩
    refine ⟨_, results_cell1 rfl _ _ _ _ rfl (cell_of_heap ((Below.heap_setCell W6 _ _ w.heap.size (by show w.heap.size ≠ s; omega)).trans HE6.out)).1, by rw [HR0.out], hm6.mark false⟩
  · have hE6 := hm.keepsBlock hS5 hE5 (by decide) (by decide)
    have hK6 : W6.heap[w.heap.size + 2]? = some (.cells xs.toArray 60) := by
      obtain ⟨g', _, _, ho⟩ := hm
      refine (ho.block _ (lt_of_heap hK5) fun hown => ?_).trans hK5
      obtain ⟨c, t, h1, _⟩ := own_tag HH.out hown
      have := lt_of_heap h1
      omega
    have hO6 : Only (own s g) w W6 := by
      obtain ⟨g', _, _, ho⟩ := hm
      exact hO5.trans ho (fun i hi => .inl hi)
    have hR6 : RepAll W6 vs xs := HH.out.reps.keep (HH.out.keepsV hO6)
    obtain ⟨it, hhd⟩ := hm.head
    refine leaves_cons (f := 80) (args := #[.pointer (some ⟨s, 0, none⟩), .slice (some ⟨w.heap.size + 2, 0, none⟩) n n, .pointer (some ⟨w.heap.size, 0, none⟩)]) (by simp) (by simp [go_sem]) ?_
    refine (rescue_threw hhd hE6 hth _ _ _).mono ?_
    rintro e u' w7 ⟨rfl, rfl, rfl⟩
    have hlb := laid_back hhd hK6 hR6 (by rw [HN.out]; exact hn5)
    rw [HN.out] at hlb
    have hne : w.heap.size ≠ s := by omega
    have hE7 : ((W6.setCell ⟨s, 1, none⟩ (.bool false)).setCell ⟨s, 0, none⟩ (.slice (some ⟨w.heap.size + 2, 0, none⟩) n n)).heap[w.heap.size]? = some (.cells #[.int .i64 0] 25) := by
      rw [Below.heap_setCell _ _ _ w.heap.size hne, Below.heap_setCell _ _ _ w.heap.size hne]; exact hE6
    have hmv : Moved w s g false vs ((W6.setCell ⟨s, 1, none⟩ (.bool false)).setCell ⟨s, 0, none⟩ (.slice (some ⟨w.heap.size + 2, 0, none⟩) n n)) :=
      ⟨some (w.heap.size + 2), hlb, fun b hb => .inr (by cases hb; omega), (hO6.setCell (.inl (.inl rfl)) _).setCell (.inl (.inl rfl)) _⟩
    refine ⟨_, results_cell1 rfl _ _ _ _ rfl (cell_of_heap (heap_set hE7 _)).1, rfl, ?_⟩
    rw [hrv]
    exact hmv.set (Nat.le_refl _) hE7 (by decide) (by decide) nStill22
set_option maxHeartbeats 1000000 in
theorem extra_word4 (h : Stk w s g false vs) (hok : Okay vs) (r : Int × St) (hw : ∀ W, Stk W s g true vs → Calls Try.prog 79 #[.pointer (some ⟨s, 0, none⟩)] W (WordOut W s g vs r)) :
    Calls Try.prog 48 #[.pointer (some ⟨s, 0, none⟩), .int .i64 4] w fun e w' => e = .returned (.int .i64 r.1) ∧ Moved w s g false r.2 w' := by
  have hS := h
  obtain ⟨a, cap, xs, h⟩ := h
  have c0 := h.c0
  have c1 := h.c1
  have z0 := h.z 0
  have z1 := h.z 1
  have hlt := lt_of_heap h.head
  have hn5 := hok.1
  have HH := hide h
  have HS := hide hS
  have hxl : xs.length = vs.length := h.reps.length
  clear h hS
  obtain ⟨iv, hiv, hz, hsz, hby⟩ := info_parts infoV
  generalize hvn : vs.length = n at *
  have HN := hide hvn
  clear hvn
  have hef := some_func
  obtain ⟨W2, HW2⟩ : ∃ W2, Hid (W2 = ((w.alloc (.cells #[.int .i64 0] 25)).alloc (.cells #[.func (.func 76) #[] #[], .nilFunc, .func (.func 77) #[] #[], .func (.func 78) #[] #[], .func (.func 79) #[] #[]] 109))) := ⟨_, rfl⟩
  have hB2 : Below w.heap.size w W2 := by rw [HW2.out]; exact below_alloc (below_alloc (Below.refl _ _))
  have hs2 : W2.heap.size = w.heap.size + 2 := by rw [HW2.out]; simp
  have hE2 : W2.heap[w.heap.size]? = some (.cells #[.int .i64 0] 25) := by rw [HW2.out]; exact heap_alloc2_old w _ _
  obtain ⟨W3, HW3⟩ : ∃ W3, Hid (W3 = W2.alloc (.cells (madeCells #[.nilIface] n) 60)) := ⟨_, rfl⟩
  have hB23 : Below (w.heap.size + 2) W2 W3 := by rw [HW3.out]; exact (Below.refl _ _).alloc (by omega) _
  have hB3 : Below w.heap.size w W3 := hB2.trans (hB23.mono (by omega))
  have HK3 : Hid (W3.heap[w.heap.size + 2]? = some (.cells (madeCells #[.nilIface] n).toList.toArray 60)) := by rw [HW3.out, ← hs2]; exact heap_alloc_new _ _
  have H3 := hide (HH.out.below hB3)
  have c03 := H3.out.c0
  rw [HN.out] at c03
  have HCP : Hid (0 < xs.length → some (⟨w.heap.size + 2, 0, none⟩ : Addr) = some ⟨w.heap.size + 2, 0, none⟩ ∧ ∃ ad, a = some ad ∧ ∀ j v, xs[j]? = some v → W3.cell? (ad.add j) = some v) := fun h0 => by
    obtain ⟨b, h1, _, h2⟩ := H3.out.opened (by have := HN.out; omega)
    refine ⟨rfl, _, h1, fun j v hv => ?_⟩
    have hadd : (⟨b, 0, none⟩ : Addr).add j = ⟨b, j, none⟩ := by unfold Addr.add; split <;> simp_all
    rw [hadd]; exact h2 j v hv
  have HONE : Hid (∀ v ∈ xs, v.oneCell' = true) := fun v hv => by
    obtain ⟨j, hj⟩ := List.getElem?_of_mem hv
    obtain ⟨u, _, hu⟩ := H3.out.reps.val hj
    obtain ⟨T, y, rfl⟩ := hu.iface
    rfl
  have HE2 := hide hE2
  clear hE2
  have HSPL : Hid (splice (madeCells #[.nilIface] n).toList 0 xs = xs) := by
    have hm : (madeCells #[Value.nilIface] n).toList.length = n := by simpa using size_madeCells #[Value.nilIface] n
    show _ = _
    unfold splice
    simp only [List.take_zero, List.nil_append, Nat.zero_add]
    rw [List.drop_eq_nil_of_le (by omega), List.append_nil]
  have HML : Hid (0 + xs.length ≤ (madeCells #[Value.nilIface] n).toList.length) := by
    have hm : (madeCells #[Value.nilIface] n).toList.length = n := by simpa using size_madeCells #[Value.nilIface] n
    show _ ≤ _
    omega
  clear c1 z0 z1
  have HWORD : Hid (∀ w4, Below w.heap.size w w4 → Calls Try.prog 79 #[.pointer (some ⟨s, 0, none⟩)] (w4.setCell ⟨s, 1, none⟩ (.bool true)) (WordOut (w4.setCell ⟨s, 1, none⟩ (.bool true)) s g vs r)) := fun w4 hb => hw _ ⟨a, cap, xs, ((HH.out.below hb).mark true).1⟩
  clear hw
  go_enter_defers Try.func48, Try.ntmps48
  go_wp2_with (first | (rw [← HW2.out]; refine wpList_make_row _ rfl _ _ 44 rfl 60 iv .nilIface Try.underlying44 hiv hz hsz rfl .i64 .i64 n rfl rfl ?_ ?_ ?_; (· rw [hby]; omega); (· omega); rw [← HW3.out]) | (refine wpList_copy_splice rfl _ _ 44 44 rfl 60 Try.underlying44 size46 _ _ _ _ _ _ rfl rfl (w.heap.size + 2) 0 (madeCells #[.nilIface] n).toList 60 HK3.out xs (by rw [hxl]; exact (Nat.min_self n).symm) HCP.out HML.out HONE.out (w.heap.size + 2) W2 hB23 (Nat.le_refl _) ?_; intro w4 HK4 hb24; have hb4 := hB2.trans (hb24.mono (by omega)); have c14 := (HH.out.below hb4).c1; have z14 := (HH.out.below hb4).z 1))
  refine (HWORD.out _ hb4).mono ?_
  have hE4 : w4.heap[w.heap.size]? = some (.cells #[.int .i64 0] 25) := (hb24.block _ (by omega)).trans HE2.out
  have hE5 : (w4.setCell ⟨s, 1, none⟩ (.bool true)).heap[w.heap.size]? = some (.cells #[.int .i64 0] 25) := (Below.heap_setCell w4 _ _ w.heap.size (by show w.heap.size ≠ s; omega)).trans hE4
  have hK5 : (w4.setCell ⟨s, 1, none⟩ (.bool true)).heap[w.heap.size + 2]? = some (.cells xs.toArray 60) := (Below.heap_setCell w4 _ _ (w.heap.size + 2) (by show w.heap.size + 2 ≠ s; omega)).trans (by rw [← HSPL.out]; exact HK4.out)
  have hS5 : Stk (w4.setCell ⟨s, 1, none⟩ (.bool true)) s g true vs := ⟨a, cap, xs, ((HH.out.below hb4).mark true).1⟩
  have hO5 : Only (own s g) w (w4.setCell ⟨s, 1, none⟩ (.bool true)) := (Only.of_below hb4).setCell (.inl (.inl rfl)) _
  rintro e W6 (⟨rfl, hr0, hm⟩ | ⟨v, vs', rfl, hr0, hrv, hth, hm⟩)
  · have HE6 := hide (hm.keepsBlock hS5 hE5 (by decide) (by decide))
    have hm6 : Moved w s g true r.2 W6 := Moved.then (fun b hb => .inl hb) hO5 hm
    obtain ⟨it, hhd⟩ := hm6.head
    have HHD := hide hhd
    obtain ⟨cE, zE⟩ := cell_of_heap HE6.out
    have HR0 := hide hr0
    clear hE4 hE5 hK5 hS5 hm hhd hr0
    go_wp2
    refine leaves_cons (f := 80) (args := #[.pointer (some ⟨s, 0, none⟩), .slice (some ⟨w.heap.size + 2, 0, none⟩) n n, .pointer (some ⟨w.heap.size, 0, none⟩)]) (by simp) (by simp [go_sem]) ?_
    refine (rescue_quiet HHD.out _ _).mono ?_
    rintro e u' w7 ⟨rfl, rfl, rfl⟩
    refine ⟨_, results_cell1 rfl _ _ _ _ rfl (cell_of_heap ((Below.heap_setCell W6 _ _ w.heap.size (by show w.heap.size ≠ s; omega)).trans HE6.out)).1, by rw [HR0.out], hm6.mark false⟩
  · have hE6 := hm.keepsBlock hS5 hE5 (by decide) (by decide)
    have hK6 : W6.heap[w.heap.size + 2]? = some (.cells xs.toArray 60) := by
      obtain ⟨g', _, _, ho⟩ := hm
      refine (ho.block _ (lt_of_heap hK5) fun hown => ?_).trans hK5
      obtain ⟨c, t, h1, _⟩ := own_tag HH.out hown
      have := lt_of_heap h1
      omega
    have hO6 : Only (own s g) w W6 := by
      obtain ⟨g', _, _, ho⟩ := hm
      exact hO5.trans ho (fun i hi => .inl hi)
    have hR6 : RepAll W6 vs xs := HH.out.reps.keep (HH.out.keepsV hO6)
    obtain ⟨it, hhd⟩ := hm.head
    refine leaves_cons (f := 80) (args := #[.pointer (some ⟨s, 0, none⟩), .slice (some ⟨w.heap.size + 2, 0, none⟩) n n, .pointer (some ⟨w.heap.size, 0, none⟩)]) (by simp) (by simp [go_sem]) ?_
    refine (rescue_threw hhd hE6 hth _ _ _).mono ?_
    rintro e u' w7 ⟨rfl, rfl, rfl⟩
    have hlb := laid_back hhd hK6 hR6 (by rw [HN.out]; exact hn5)
    rw [HN.out] at hlb
    have hne : w.heap.size ≠ s := by omega
    have hE7 : ((W6.setCell ⟨s, 1, none⟩ (.bool false)).setCell ⟨s, 0, none⟩ (.slice (some ⟨w.heap.size + 2, 0, none⟩) n n)).heap[w.heap.size]? = some (.cells #[.int .i64 0] 25) := by
      rw [Below.heap_setCell _ _ _ w.heap.size hne, Below.heap_setCell _ _ _ w.heap.size hne]; exact hE6
    have hmv : Moved w s g false vs ((W6.setCell ⟨s, 1, none⟩ (.bool false)).setCell ⟨s, 0, none⟩ (.slice (some ⟨w.heap.size + 2, 0, none⟩) n n)) :=
      ⟨some (w.heap.size + 2), hlb, fun b hb => .inr (by cases hb; omega), (hO6.setCell (.inl (.inl rfl)) _).setCell (.inl (.inl rfl)) _⟩
    refine ⟨_, results_cell1 rfl _ _ _ _ rfl (cell_of_heap (heap_set hE7 _)).1, rfl, ?_⟩
    rw [hrv]
    exact hmv.set (Nat.le_refl _) hE7 (by decide) (by decide) nStill22
set_option maxHeartbeats 1000000 in
theorem extra_none (h : Stk w s g false vs) (k : Int) (hk : k < 0 ∨ 5 ≤ k ∨ k = 1) :
    Calls Try.prog 48 #[.pointer (some ⟨s, 0, none⟩), .int .i64 k] w fun e w' => e = .returned (.int .i64 9) ∧ Moved w s g false vs w' := by
  have HS := hide h
  have hef := no_func
  rcases hk with hk | hk | rfl
  · have h1 : decide (k ≥ 0) = false := decide_eq_false (by omega)
    go_enter_defers Try.func48, Try.ntmps48
    go_wp2
    exact ⟨_, results_cell1 rfl _ _ _ _ rfl (cell_of_heap (heap_alloc2_old w _ _)).1, rfl, Moved.below HS.out (below_alloc (below_alloc (Below.refl _ _)))⟩
  · have h1 : decide (k ≥ 0) = true := decide_eq_true (by omega)
    have h2 : decide (k < 5) = false := decide_eq_false (by omega)
    go_enter_defers Try.func48, Try.ntmps48
    go_wp2
    exact ⟨_, results_cell1 rfl _ _ _ _ rfl (cell_of_heap (heap_alloc2_old w _ _)).1, rfl, Moved.below HS.out (below_alloc (below_alloc (Below.refl _ _)))⟩
  · go_enter_defers Try.func48, Try.ntmps48
    go_wp2
    exact ⟨_, results_cell1 rfl _ _ _ _ rfl (cell_of_heap (heap_alloc2_old w _ _)).1, rfl, Moved.below HS.out (below_alloc (below_alloc (Below.refl _ _)))⟩
end
end Go.Proofs.Qxb6500606a
