/-
  echo: each value once more, under the stack.
-/
import Derived.Test.Qxb6500606aSpread
import Derived.Deep.OwnRows
namespace Go.Proofs.Qxb6500606a
open Go.ChangeShapes Go.WideShapes Go.ChangeAt Go.RowKit Go.Shelf
set_option linter.unusedVariables false
theorem below_grown {w W W' : World} {row : Option Nat} (h : Below w.heap.size w W) (hg : W.grownBy W' row) (hr : ∀ k, row = some k → w.heap.size ≤ k) : Below w.heap.size w W' :=
  ⟨hg.os.trans h.os, hg.tape.trans h.tape, hg.output.trans h.output, Nat.le_trans h.size hg.size, fun k hk => (hg.block k (Nat.lt_of_lt_of_le hk h.size) (fun e => by have := hr k e.symm; omega)).trans (h.block k hk)⟩
theorem ownsRow_below {W W' : World} {base : Nat} {e : TypeId} {size : Nat} {v : Value} {n : Nat} {xs : List Value} (h : W.ownsRow base e size v n xs) (hb : Below W.heap.size W W') : W'.ownsRow base e size v n xs := by
  refine ⟨h.1, ?_⟩
  rcases h.2 with h | ⟨g, cap, cur, h1, h2, h3, h4⟩
  · exact .inl h
  · exact .inr ⟨g, cap, cur, h1, h2, (hb.block g (lt_of_heap h3)).trans h3, h4⟩
section
variable {w : World} {s : Nat} {g : Option Nat} {vs : List V}
theorem under_full {x : Value} (h : Stk w s g true vs) (hn : vs.length = 5) :
    Calls Try.prog 88 #[.pointer (some ⟨s, 0, none⟩), x] w fun e w' => e = .panicked (thrown (.iface 25 (.int .i64 3))) ∧ w' = w := by
  obtain ⟨a, cap, xs, h⟩ := h
  have c0 := h.c0
  rw [hn] at c0
  clear h
  go_enter Try.func88, Try.ntmps88
  go_wp2
  exact ⟨rfl, rfl, rfl⟩
set_option maxHeartbeats 400000 in
theorem under_ok {v : V} {T : TypeId} {y : Value} (h : Stk w s g true vs) (hn : vs.length < 5) (hn0 : 0 < vs.length) (hv : Rep w v (.iface T y)) :
    Calls Try.prog 88 #[.pointer (some ⟨s, 0, none⟩), .iface T y] w fun e w' => e = .returned (.tuple #[]) ∧ ∃ K, w.heap.size ≤ K ∧ Stk w' s (some K) true (v :: vs) ∧ Only (fun b => b = s) w w' := by
  obtain ⟨a, cap, xs, h⟩ := h
  have c0 := h.c0
  have z0 := h.z 0
  have hge : decide ((vs.length : Int) ≥ 5) = false := decide_eq_false (by omega)
  obtain ⟨iv, hiv, hz, hsz, hby⟩ := info_parts infoV
  obtain ⟨b, rfl, hgb, _⟩ := h.opened hn0
  have HH := hide h
  have HV := hide hv
  have HON : Hid (∀ u ∈ xs, u.oneCell' = true) := fun u hu => by
    obtain ⟨j, hj⟩ := List.getElem?_of_mem hu
    obtain ⟨u', _, hu'⟩ := h.reps.val hj
    obtain ⟨T, y, rfl⟩ := hu'.iface
    rfl
  have HXL : Hid (xs.length = vs.length * 1) := h.row.1
  clear h hv
  generalize hvn : vs.length = n at *
  have HN := hide hvn
  clear hvn
  have HMAKE : Hid (∀ (W w1 : World), W.grownBy w1 none → Below W.heap.size W w1) := fun W w1 gr => below_grown (Below.refl _ W) gr (fun k hk => by cases hk)
  have hlt := lt_of_heap HH.out.head
  have HC1 : Hid (∀ w1 : World, ∀ j u, [Value.iface T y][j]? = some u → (w1.alloc (.cells #[.iface T y] 60)).cell? ((⟨w1.heap.size, 0, none⟩ : Addr).add j) = some u) := fun w1 j u hj => by
    have hadd : (⟨w1.heap.size, 0, none⟩ : Addr).add j = ⟨w1.heap.size, j, none⟩ := by unfold Addr.add; split <;> simp_all
    rw [hadd]
    simp only [World.cell?, heap_alloc_new]
    simpa using hj
  have HCX : Hid (∀ w2, Below w.heap.size w w2 → ∀ j u, xs[j]? = some u → w2.cell? ((⟨b, 0, none⟩ : Addr).add j) = some u) := fun w2 hb j u hj => by
    obtain ⟨b', e1, _, h2⟩ := (HH.out.below hb).opened (by have := HN.out; omega)
    cases e1
    have hadd : (⟨b, 0, none⟩ : Addr).add j = ⟨b, j, none⟩ := by unfold Addr.add; split <;> simp_all
    rw [hadd]; exact h2 j u hj
  have H1C : Hid (∀ u ∈ [Value.iface T y], u.oneCell' = true) := fun u hu => by simp at hu; subst hu; rfl
  go_enter Try.func88, Try.ntmps88
  go_wp2_with (first | (refine wpList_make_own _ rfl _ _ 44 rfl 0 60 iv .nilIface 1 Try.underlying44 hiv hz hsz .i64 .i64 (↑n + 1) (n + 1) rfl rfl (by omega) (by rw [hby]; omega) (by unfold maxLen; omega) (Nat.zero_le _) ?_; intro w1 ow1 gr1; have hb1 := HMAKE.out _ _ gr1; have OW1 := hide (ownsRow_below ow1 (below_alloc (o := .cells #[.iface T y] 60) (Below.refl _ w1))); clear ow1 gr1) | (refine wpList_append_fits _ rfl _ _ 44 rfl 0 60 iv 1 Try.underlying44 hiv hsz w.heap.size 0 (n + 1) [] rfl OW1.out ⟨w1.heap.size, 0, none⟩ 1 1 [.iface T y] rfl rfl (HC1.out w1) H1C.out (by omega) ?_; intro w2 ow2 gr2; have hb2 := below_grown (below_alloc hb1) gr2 (fun k hk => by cases hk; omega); have c02 := (HH.out.below hb2).c0; rw [HN.out] at c02; have z02 := (HH.out.below hb2).z 0; have OW2 := hide ow2; clear ow2 gr2) | (refine wpList_append_fits _ rfl _ _ 44 rfl 0 60 iv 1 Try.underlying44 hiv hsz w.heap.size 1 (n + 1) ([] ++ [.iface T y]) rfl OW2.out ⟨b, 0, none⟩ n cap xs rfl HXL.out (HCX.out w2 hb2) HON.out (by omega) ?_; intro w3 ow3 gr3; have hb3 := below_grown hb2 gr3 (fun k hk => by cases hk; omega); have c03 := (HH.out.below hb3).c0; rw [HN.out] at c03; have z03 := (HH.out.below hb3).z 0; have OW3 := hide ow3; clear ow3 gr3))
  go_end0
  refine ⟨rfl, w.heap.size, Nat.le_refl _, ?_, Only.setCell (S := fun b => b = s) (Only.of_below hb3) (p := ⟨s, 0, none⟩) (.inl rfl) _⟩
  have H3 := HH.out.below hb3
  have ho : Only (own s g) w (w3.setCell ⟨s, 0, none⟩ (.slice (some ⟨w.heap.size, 0, none⟩) (1 + n) (n + 1))) := (Only.of_below hb3).setCell (.inl (.inl rfl)) _
  have hkv := HH.out.keepsV ho
  have hl : (v :: vs).length = 1 + n := by have := HN.out; simp; omega
  refine ⟨some ⟨w.heap.size, 0, none⟩, n + 1, .iface T y :: xs, ⟨?_, ?_, rfl, HV.out.keep hkv, HH.out.reps.keep hkv⟩⟩
  · rw [hl, heap_setCell_same w3 s 0 _ _ _ H3.head]; rfl
  · rw [hl]
    refine ⟨OW3.out.1, orMap OW3.out.2 id ?_⟩
    rintro ⟨g2, cap2, cur, h1, h2, h3, h4⟩
    refine ⟨g2, cap2, cur, h1, h2, (Below.heap_setCell w3 _ _ g2 ?_).trans h3, h4⟩
    have e : g2 = w.heap.size := by simp at h1; exact h1.1.symm
    show g2 ≠ s
    omega

theorem rev_take {vs : List V} {j : Nat} {v : V} (h : vs[j]? = some v) : v :: ((vs.take j).reverse ++ vs) = (vs.take (j + 1)).reverse ++ vs := by
  rw [List.take_add_one, h]; simp
set_option maxHeartbeats 1000000 in
theorem echo_calls (h : Stk w s g true vs) (hok : Okay vs) : Calls Try.prog 78 #[.pointer (some ⟨s, 0, none⟩)] w (WordOut w s g vs (echoF vs)) := by
  have hn5 := hok.1
  obtain ⟨a, cap, xs, h⟩ := h
  have c0 := h.c0
  have HH := hide h
  have hE : echoF vs = if 5 < 2 * vs.length then (3, vs) else (0, vs.reverse ++ vs) := rfl
  have HE := hide hE
  clear h hE
  generalize hvn : vs.length = n at *
  have HN := hide hvn
  clear hvn
  go_enter Try.func78, Try.ntmps78
  go_wp2_with fail
  go_loopw [9] (fun i W => ∃ j : Nat, i = .int .i64 j ∧ j ≤ n ∧ j + n ≤ 5 ∧ Only (fun b => b = s) w W ∧ ∃ g', Stk W s g' true ((vs.take j).reverse ++ vs) ∧ Grew w g g') (fun i W => n - (intOf i).toNat)
  case atStart => exact ⟨0, rfl, Nat.zero_le _, by omega, Only.refl _ _, g, ⟨a, cap, xs, HH.out⟩, fun b hb => .inl hb⟩
  case round =>
    obtain ⟨j, rfl, hj, hj5, ho, g', hst, hg'⟩ := hrel
    have hoS : Only (own s g) w wr := ho.mono (fun b _ hb => .inl hb)
    have hlen : ((vs.take j).reverse ++ vs).length = j + n := by have := HN.out; simp; omega
    by_cases hjl : j < n
    · obtain ⟨x, hx, hr⟩ := HH.out.at j (by have := HN.out; omega)
      obtain ⟨b, rfl, hgb, hc⟩ := HH.out.opened (by have := HN.out; omega)
      obtain ⟨T, y, rfl⟩ := hr.iface
      have hbs : b ≠ s := HH.out.ne hgb
      have hcj : wr.cell? ⟨b, j, none⟩ = some (.iface T y) := by
        have h1 := hc j _ hx
        obtain ⟨c, t, h2, _⟩ := own_tag HH.out (.inr hgb)
        have h3 := ho.block b (lt_of_heap h2) hbs
        simp only [World.cell?, h2] at h1
        simp only [World.cell?, h3, h2]
        exact h1
      have hjv : j < vs.length := by have := HN.out; omega
      have hrw : Rep wr vs[j] (.iface T y) := hr.keep (HH.out.keepsV hoS)
      have hvj : vs[j]? = some (vs[j]'(by have := HN.out; omega)) := List.getElem?_eq_getElem _
      have hlt : decide ((j : Int) < n) = true := decide_eq_true (by omega)
      by_cases hfull : j + n = 5
      · have hun := hide (under_full (x := .iface T y) hst (by omega))
        have HM : Hid (Moved w s g true ((vs.take j).reverse ++ vs) wr) := ⟨g', hst, hg', hoS⟩
        clear hst hr hrw hx hc hvj
        go_wp2_with (go_at_call 88; refine hun.out.mono ?_; rintro e w1 ⟨rfl, hw⟩; subst hw)
        refine ⟨rfl, .inr ⟨_, _, rfl, ?_, ?_, .inl ?_, HM.out⟩⟩
        · rw [HE.out, if_pos (by omega)]; exact (by decide : (3 : Int) ≠ 0)
        · rw [HE.out, if_pos (by omega)]
        · rw [HE.out, if_pos (by omega)]
      · have hun := under_ok hst (by omega) (by omega) hrw
        rw [rev_take hvj] at hun
        have hun := hide hun
        have HG := hide hg'
        have hsz := ho.size
        clear hst hr hrw hx hc hvj
        go_wp2_with (go_at_call 88; refine hun.out.mono ?_; rintro e w1 ⟨rfl, K, hK, hst1, ho1⟩)
        go_roundw
        case rel => exact ⟨j + 1, by go_num, by omega, by omega, ho.trans ho1 (fun i hi => .inl hi), some K, hst1, fun b hb => .inr (by cases hb; omega)⟩
        case measure => simp [intOf]; omega
    · have hjl' : j = n := by omega
      subst hjl'
      have hlt : decide ((j : Int) < j) = false := decide_eq_false (by omega)
      have HM : Hid (Moved w s g true (vs.reverse ++ vs) wr) := by
        have e : vs.take j = vs := List.take_of_length_le (by have := HN.out; omega)
        rw [e] at hst
        exact ⟨g', hst, hg', hoS⟩
      clear hst
      go_wp2
      go_end0
      refine .inl ⟨rfl, ?_, ?_⟩
      · rw [HE.out, if_neg (by omega)]
      · rw [HE.out, if_neg (by omega)]; exact HM.out
end
end Go.Proofs.Qxb6500606a
