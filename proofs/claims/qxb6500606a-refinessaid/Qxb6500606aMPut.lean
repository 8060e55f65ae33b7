/-
  The model valsm: its stack; Has, put. (Seat 606 alone.)
-/
import Derived.Test.Qxb6500606aMText
import Derived.Deep.RegionLaw
import Derived.Deep.AppendLies
namespace Go.Proofs.Qxb6500606a
open Go.ChangeShapes Go.WideShapes Go.ChangeAt Go.RowKit
attribute [local go_sem] str_size str_app str_app1 str_1app str_toList str_get
set_option linter.unusedVariables false

/-- Has. -/
theorem has_calls (t c : Int) (ht : t = 1 ∨ t = 2 ∨ t = 3 ∨ t = 4) (hc : c = 1 ∨ c = 2 ∨ c = 3 ∨ c = 4) (w : World) : Calls Try.prog 83 #[.int .i64 t, .int .i64 c] w fun e w' => e = .returned (.bool (canT t.toNat c.toNat)) ∧ w' = w := by
  rcases ht with rfl | rfl | rfl | rfl <;> rcases hc with rfl | rfl | rfl | rfl <;>
    (go_enter Try.func83, Try.ntmps83
     go_wp2
     go_ret
     exact ⟨rfl, rfl⟩)
theorem hasI_calls (v : V) (hw : Wf v) (c : Int) (hc : c = 1 ∨ c = 2 ∨ c = 3 ∨ c = 4) (w : World) : Calls Try.prog 83 #[.int .i64 (kind v), .int .i64 c] w fun e w' => e = .returned (.bool (canI (kind v) c)) ∧ w' = w := by
  have := has_calls (kind v) c (by rcases kinds5 hw with e | e | e | e <;> rw [e] <;> simp) hc w
  simpa [canI] using this

/-- The stack's own row. -/
abbrev ex (g : Option Nat) : Nat → Prop := fun b => g = some b
/-- The model's stack m: its row's block is g. -/
def MStk (w : World) (m : Nat) (g : Option Nat) (vs : St) : Prop := ∃ k css, w.heap[m]? = some (.cells #[k] 63) ∧ k.ownBlock = g ∧ MRow w (ex g) k css vs
def mown (m : Nat) (g : Option Nat) : Nat → Prop := fun b => b = m ∨ g = some b
/-- What a word of the model leaves. -/
def MMoved (w : World) (m : Nat) (g : Option Nat) (vs' : St) (w' : World) : Prop := ∃ g', MStk w' m g' vs' ∧ Grew w g g' ∧ Only (mown m g) w w'
theorem MRow.keep {w w' : World} {g g' : Nat → Prop} {k : Value} {css : List (List Value)} {vs : St} (h : MRow w g k css vs) (hk : ∀ b c, w.heap[b]? = some (.cells c 79) → ¬ g b → w'.heap[b]? = some (.cells c 79) ∧ ¬ g' b) (hrow : w'.ownsRow 0 79 4 k vs.length css.flatten) : MRow w' g' k css vs :=
  ⟨hrow, h.len, h.four, fun i e cs he hcs => (h.rep i e cs he hcs).keep hk⟩
theorem MRow.below {w w' : World} {g : Nat → Prop} {k : Value} {css : List (List Value)} {vs : St} (h : MRow w g k css vs) (hb : Below w.heap.size w w') : MRow w' g k css vs :=
  h.keep (fun b c e hne => ⟨(hb.block b (lt_of_heap e)).trans e, hne⟩) (ownsRow_below h.row hb)
theorem MStk.below {w w' : World} {m : Nat} {g : Option Nat} {vs : St} (h : MStk w m g vs) (hb : Below w.heap.size w w') : MStk w' m g vs := by
  obtain ⟨k, css, h1, h2, h3⟩ := h
  exact ⟨k, css, (hb.block m (lt_of_heap h1)).trans h1, h2, h3.below hb⟩
theorem MStk.open {w : World} {m : Nat} {g : Option Nat} {vs : St} (h : MStk w m g vs) : ∃ a cap css, w.heap[m]? = some (.cells #[.slice a vs.length cap] 63) ∧ w.cell? ⟨m, 0, none⟩ = some (.slice a vs.length cap) ∧ (Value.slice a vs.length cap).ownBlock = g ∧ MRow w (ex g) (.slice a vs.length cap) css vs ∧ w.frozen? ⟨m, 0, none⟩ = false := by
  obtain ⟨k, css, h1, h2, h3⟩ := h
  obtain ⟨a, cap, rfl, _⟩ := ownsRow_slice4 h3.row
  exact ⟨a, cap, css, h1, by simp [World.cell?, h1], h2, h3, frozen_of_row w m 0 _ _ h1⟩
theorem MStk.ne {w : World} {m : Nat} {g : Option Nat} {vs : St} (h : MStk w m g vs) {b : Nat} (hb : g = some b) : b ≠ m := by
  obtain ⟨k, css, h1, h2, h3⟩ := h
  obtain ⟨a, cap, rfl, _, h4, _⟩ := ownsRow_slice4 h3.row
  obtain ⟨_, cur, h5, _⟩ := h4 b (h2.trans hb)
  rintro rfl
  rw [h1] at h5
  simp at h5
theorem MMoved.same {w : World} {m : Nat} {g : Option Nat} {vs : St} (h : MStk w m g vs) : MMoved w m g vs w := ⟨g, h, fun b hb => .inl hb, Only.refl _ _⟩
theorem MMoved.after {w w1 w' : World} {m : Nat} {g : Option Nat} {vs : St} (hb : Below w.heap.size w w1) (h : MMoved w1 m g vs w') : MMoved w m g vs w' := by
  obtain ⟨g', h1, h2, h3⟩ := h
  exact ⟨g', h1, fun b hb' => orMap (h2 b hb') id (fun h => Nat.le_trans hb.size h), (Only.of_below hb).trans h3 (fun i hi => .inl hi)⟩
theorem MMoved.below {w w' : World} {m : Nat} {g : Option Nat} {vs : St} (h : MStk w m g vs) (hb : Below w.heap.size w w') : MMoved w m g vs w' := .after hb (.same (h.below hb))
theorem MMoved.next {w W w' : World} {m : Nat} {g : Option Nat} {vs : St} (h : MMoved w m g vs W) (hb : Below W.heap.size W w') : MMoved w m g vs w' := by
  obtain ⟨g', h1, h2, h3⟩ := h
  exact ⟨g', h1.below hb, h2, h3.trans (Only.of_below (S := mown m g) hb) (fun i hi => .inl hi)⟩
theorem infoM : (Try.prog.info? 79).map (fun i => (i.zero, i.size, i.bytes)) = some (some (.agg #[.int .i64 0, .int .i64 0, .string { data := #[] }, .slice none 0 0]), 4, 56) := by kernel_rfl
theorem ownsRow_prefix4 {w : World} {a : Option Addr} {n cap : Nat} {xs : List Value} (h : w.ownsRow 0 79 4 (.slice a n cap) n xs) (k : Nat) (hk : k ≤ n) : w.ownsRow 0 79 4 (.slice a k cap) k (xs.take (k * 4)) := by
  refine ⟨by rw [List.length_take, h.1]; omega, ?_⟩
  rcases h.2 with ⟨h1, h2⟩ | ⟨g, cap', cur, h1, h2, h3, h4, h5, h6, h7⟩
  · simp only [Value.slice.injEq] at h1
    obtain ⟨rfl, rfl, rfl⟩ := h1
    exact .inl ⟨by rw [show k = 0 by omega], by omega⟩
  · simp only [Value.slice.injEq] at h1
    obtain ⟨rfl, _, rfl⟩ := h1
    refine .inr ⟨g, cap, cur, rfl, h2, h3, by omega, h5, h6, ?_⟩
    rw [← h7, List.take_take, Nat.min_eq_left (by omega)]
theorem ownsRow_cap4 {w : World} {a : Option Addr} {n cap : Nat} {xs : List Value} (h : w.ownsRow 0 79 4 (.slice a n cap) n xs) : n ≤ cap := by
  rcases h.2 with ⟨h1, h2⟩ | ⟨g, cap', cur, h1, h2, h3, h4, h5, h6, h7⟩
  · omega
  · simp only [Value.slice.injEq] at h1
    obtain ⟨rfl, _, rfl⟩ := h1
    exact h4
theorem flatten_take4 : ∀ (css : List (List Value)) (k : Nat), (∀ c ∈ css, c.length = 4) → css.flatten.take (k * 4) = (css.take k).flatten
  | [], k, _ => by simp
  | c :: r, 0, _ => by simp
  | c :: r, k + 1, h4 => by
    have hl : c.length = 4 := h4 c (by simp)
    have := flatten_take4 r k (fun x hx => h4 x (by simp [hx]))
    rw [List.flatten_cons, List.take_succ_cons, List.flatten_cons, ← this, show (k + 1) * 4 = c.length + k * 4 by omega, List.take_append]
    rw [List.take_of_length_le (by omega), Nat.add_sub_cancel_left]
/-- put, plainly. -/
def putF (d : Nat) (v : V) (vs : St) : Int × St := if 30 < (text v).length then (7, vs) else if 5 ≤ vs.length - d then (3, vs) else lay d v vs
/-- The stack behind put's append and store. -/
theorem put_end {w w2 : World} {m : Nat} {g : Option Nat} {vs : St} {a : Option Addr} {cap : Nat} {css : List (List Value)} {cs : List Value} {v : V} {d gg cap2 : Nat} {o : Obj} (hm : w.heap[m]? = some (.cells #[.slice a vs.length cap] 63)) (ho : (Value.slice a vs.length cap).ownBlock = g) (hr : MRow w (ex g) (.slice a vs.length cap) css vs) (hd : d ≤ vs.length) (hv : MV w (ex g) v cs)
    (hown : w2.ownsRow 0 79 4 (.slice (some ⟨gg, 0, none⟩) (vs.length - d + 1) cap2) (vs.length - d + 1) (css.flatten.take ((vs.length - d) * 4) ++ cs)) (hgrow : ((w.alloc o).drew).grownBy w2 (Value.slice a (vs.length - d) cap).ownBlock) (hat : (Value.slice a (vs.length - d) cap).ownBlock = some gg ∨ gg = w.heap.size + 1) :
    MMoved w m g (lay d v vs).2 (w2.setCell ⟨m, 0, none⟩ (.slice (some ⟨gg, 0, none⟩) (vs.length - d + 1) cap2)) := by
  have hstk : MStk w m g vs := ⟨_, css, hm, ho, hr⟩
  have eo : (Value.slice a (vs.length - d) cap).ownBlock = g := by rw [← ho]; cases a <;> rfl
  rw [eo] at hgrow hat
  have hml := lt_of_heap hm
  have hgm : gg ≠ m := by
    rcases hat with h | h
    · exact hstk.ne h
    · omega
  have ho1 : Only (mown m g) w w2 := by
    refine ⟨hgrow.os, hgrow.tape, hgrow.output, Nat.le_trans (by simp) hgrow.size, fun b hb hn => ?_⟩
    rw [hgrow.block b (by simp; omega) (fun e => hn (.inr e.symm))]
    exact heap_alloc_old w o hb
  have ho2 : Only (mown m g) w (w2.setCell ⟨m, 0, none⟩ (.slice (some ⟨gg, 0, none⟩) (vs.length - d + 1) cap2)) := ho1.setCell (.inl (.inl rfl)) _
  have hk : ∀ b c, w.heap[b]? = some (.cells c 79) → g ≠ some b → (w2.setCell ⟨m, 0, none⟩ (.slice (some ⟨gg, 0, none⟩) (vs.length - d + 1) cap2)).heap[b]? = some (.cells c 79) ∧ some gg ≠ some b := fun b c e hne => by
    have hbl := lt_of_heap e
    refine ⟨(ho2.block b hbl ?_).trans e, ?_⟩
    · rintro (rfl | h)
      · rw [hm] at e; simp at e
      · exact hne h
    · rintro h
      cases h
      rcases hat with h | h
      · exact hne h
      · omega
  have hbm : w2.heap[m]? = some (.cells #[.slice a vs.length cap] 63) := by
    rw [hgrow.block m (by simp; omega) (fun e => hstk.ne e.symm rfl)]
    exact (heap_alloc_old w o hml).trans hm
  have hlen : (lay d v vs).2.length = vs.length - d + 1 := by unfold lay; simp
  refine ⟨some gg, ⟨.slice (some ⟨gg, 0, none⟩) (vs.length - d + 1) cap2, css.take (vs.length - d) ++ [cs], ?_, rfl, ⟨?_, ?_, ?_, ?_⟩⟩, ?_, ho2⟩
  · rw [heap_setCell_same w2 m 0 _ _ _ hbm]; rfl
  · rw [hlen, List.flatten_append, ← flatten_take4 _ _ hr.four]
    have e : [cs].flatten = cs := by simp
    rw [e]
    refine ⟨hown.1, orMap hown.2 id ?_⟩
    rintro ⟨g2, c2, cur, h1, h2, h3, h4⟩
    simp only [Value.slice.injEq, Option.some.injEq, Addr.mk.injEq, and_true, true_and] at h1
    obtain ⟨rfl, rfl⟩ := h1
    exact ⟨gg, cap2, cur, rfl, h2, (Below.heap_setCell w2 _ _ gg hgm).trans h3, h4⟩
  · rw [hlen]; simp [hr.len]
  · intro c hc
    rcases List.mem_append.1 hc with h | h
    · exact hr.four c (List.mem_of_mem_take h)
    · simp at h; subst h; exact hv.len
  · intro i e c he hc
    have hcl : (css.take (vs.length - d)).length = vs.length - d := by simp [hr.len]
    unfold lay at he
    by_cases hi : i < vs.length - d
    · rw [List.getElem?_append_left (by simp; omega), List.getElem?_take_of_lt hi] at he
      rw [List.getElem?_append_left (by omega), List.getElem?_take_of_lt hi] at hc
      exact (hr.rep i e c he hc).keep hk
    · have hil : i = vs.length - d := by have := (List.getElem?_eq_some_iff.1 hc).1; simp [hr.len] at this; omega
      rw [List.getElem?_append_right (by simp; omega)] at he
      rw [List.getElem?_append_right (by omega), hcl, hil] at hc
      simp [hil] at he hc
      subst he hc
      exact hv.keep hk
  · intro b hb
    cases hb
    rcases hat with h | h
    · exact .inl h
    · exact .inr (by omega)
set_option maxRecDepth 100000 in
set_option maxHeartbeats 3200000 in
theorem put_calls {w : World} {m : Nat} {g : Option Nat} {vs : St} (h : MStk w m g vs) (h5 : vs.length ≤ 5) (d : Nat) (hd : d ≤ vs.length) {v : V} {cs : List Value} (hv : MV w (ex g) v cs) (hw : Wf v) (hl : (text v).length ≤ 1000) :
    Calls Try.prog 81 #[.pointer (some ⟨m, 0, none⟩), .int .i64 d, .agg cs.toArray] w fun e w' => e = .returned (.int .i64 (putF d v vs).1) ∧ MMoved w m g (putF d v vs).2 w' := by
  obtain ⟨n, s, a', m', cap', rfl⟩ := hv.cells
  have hb0 : Below w.heap.size w (w.alloc (.cells #[.int .i64 (kind v), .int .i64 n, .string (str s), .slice a' m' cap'] 79)) := below_alloc (Below.refl _ _)
  have htx := hide (mtext_calls hv hw hl _ hb0)
  have HP : Hid (putF d v vs = if 30 < (text v).length then (7, vs) else if 5 ≤ vs.length - d then (3, vs) else lay d v vs) := rfl
  have HH := hide h
  have HV := hide hv
  clear h hv hw
  generalize htl : (text v).length = tl at *
  by_cases hbig : 30 < tl
  · have hd1 : decide ((tl : Int) > 30) = true := decide_eq_true (by omega)
    rw [if_pos hbig] at HP
    generalize hT : text v = tt at *
    have hbig2 : decide ((tt.length : Int) > 30) = true := decide_eq_true (by omega)
    go_enter Try.func81, Try.ntmps81
    go_wp2_with (go_at_call 68; refine htx.out.mono ?_; rintro e w1 ⟨rfl, hb1⟩)
    go_ret
    rw [HP.out]
    exact ⟨rfl, MMoved.below HH.out (below_next hb0 hb1)⟩
  · rw [if_neg hbig] at HP
    have HTL : Hid (text v = text v) := rfl
    generalize hT : text v = tt at *
    have hbig2 : decide ((tt.length : Int) > 30) = false := decide_eq_false (by omega)
    clear hT HTL
    by_cases hful : 5 ≤ vs.length - d
    · rw [if_pos hful] at HP
      have hfd : decide ((vs.length : Int) - d ≥ 5) = true := decide_eq_true (by omega)
      go_enter Try.func81, Try.ntmps81
      go_wp2_with (go_at_call 68; refine htx.out.mono ?_; rintro e w1 ⟨rfl, hb1⟩; obtain ⟨a, cap, css, hm1, c0, ho1, hr1, z1⟩ := (HH.out.below (below_next hb0 hb1)).open; replace hr1 := hide hr1; replace hm1 := hide hm1; replace ho1 := hide ho1)
      go_ret
      rw [HP.out]
      exact ⟨rfl, MMoved.below HH.out (below_next hb0 hb1)⟩
    · rw [if_neg hful] at HP
      have hfd : decide ((vs.length : Int) - d ≥ 5) = false := decide_eq_false (by omega)
      obtain ⟨i0, hi0, hz0, hz1, hz2⟩ := info_parts infoM
      obtain ⟨r, hr⟩ : ∃ r : Nat, (vs.length : Int) - d = r := ⟨vs.length - d, by omega⟩
      have hr2 : vs.length - d = r := by omega
      have HR2 := hide hr2
      have hr5 : r < 5 := by omega
      have hrn : r ≤ vs.length := by omega
      clear hr2
      have HNE : Hid (∀ b, g = some b → b ≠ m) := fun b hb => HH.out.ne hb
      have hml : m < w.heap.size := by obtain ⟨_, _, hm, _⟩ := HH.out; exact lt_of_heap hm
      go_enter Try.func81, Try.ntmps81
      go_wp2_with (go_at_call 68; refine htx.out.mono ?_; rintro e w1 ⟨rfl, hb1⟩; obtain ⟨a, cap, css, hm1, c0, ho1, hr1, z1⟩ := (HH.out.below (below_next hb0 hb1)).open; replace hr1 := hide hr1; replace hm1 := hide hm1; replace ho1 := hide ho1)
      have b0 : w1.cell? ⟨w.heap.size, 0, none⟩ = some (.int .i64 (kind v)) := box_cell hb1 0
      have b1 : w1.cell? ⟨w.heap.size, 1, none⟩ = some (.int .i64 n) := box_cell hb1 1
      have b2 : w1.cell? ⟨w.heap.size, 2, none⟩ = some (.string (str s)) := box_cell hb1 2
      have b3 : w1.cell? ⟨w.heap.size, 3, none⟩ = some (.slice a' m' cap') := box_cell hb1 3
      have eo : (Value.slice a r cap).ownBlock = g := by rw [← ho1.out]; cases a <;> rfl
      have ag : (Value.slice a r cap).ownBlock ≠ some m := by rw [eo]; intro e; exact HNE.out m e rfl
      have ab : (Value.slice a r cap).ownBlock ≠ some w.heap.size := by
        rw [eo]; intro e
        obtain ⟨k1, css1, _, h2, h3⟩ := HH.out
        obtain ⟨_, _, rfl, _, h4, _⟩ := ownsRow_slice4 h3.row
        obtain ⟨_, cur, h6, _⟩ := h4 _ (h2.trans e)
        have := lt_of_heap h6
        omega
      have hpre := ownsRow_prefix4 hr1.out.row r hrn
      have HPRE := hide hpre
      have hwl := hb1.size
      simp at hwl
      have hcapr := ownsRow_cap4 hr1.out.row
      have hrc : r ≤ cap := by omega
      have hr0 : (0 : Int) ≤ (r : Int) := Int.natCast_nonneg _
      have hrc2 : (r : Int) ≤ (cap : Int) := by omega
      have ZA : Hid (∀ o, (w1.alloc o).drew.frozen? ⟨m, 0, none⟩ = false) := fun o => frozen_of_row _ m 0 _ _ (heap_before hm1.out)
      have CA : Hid (∀ o, (w1.alloc o).drew.cell? ⟨m, 0, none⟩ = some (.slice a vs.length cap)) := fun o => by
        have := heap_before (o := o) hm1.out
        show (w1.alloc o).cell? ⟨m, 0, none⟩ = _
        simp [World.cell?, this]
      have hmw : ¬ m = w1.heap.size := by omega
      have hmw2 : m < w1.heap.size := by omega
      have ca := CA.out (.cells #[.int .i64 (kind v), .int .i64 n, .string (str s), .slice a' m' cap'] 79)
      have AG := hide ag
      have AB := hide ab
      clear eo ag ab hpre
      go_region_law ((refine step_append_lies _ (by rfl) _ _ _ (by rfl) 0 79 i0 _ 4 56 Try.underlying61 hi0 hz0 hz1 hz2 rfl (by omega) (.slice a r cap) r (css.flatten.take (r * 4)) (by rfl) ((HPRE.out.alloc _).drew) ⟨w1.heap.size, 0, none⟩ 1 1 [.int .i64 (kind v), .int .i64 n, .string (str s), .slice a' m' cap'] (by rfl) (by rfl) (World.news_of_block (cs := #[.int .i64 (kind v), .int .i64 n, .string (str s), .slice a' m' cap']) (t := 79) (fr := (0, 0)) (heap_alloc_new w1 _)) (by simp [Value.oneCell']) (by omega) (by unfold maxLen; omega) (by omega) (by simp) (w1.heap.size + 1) (by simp) ?_; intro gg cap2 w2 hown2 hgrow hat hlt; have zz : w2.frozen? ⟨m, 0, none⟩ = false := (hgrow.frozen_far ⟨m, 0, none⟩ (by simp; omega) (Ne.symm AG.out)).trans (ZA.out _); have cz : w2.cell? ⟨m, 0, none⟩ = some (.slice a vs.length cap) := (hgrow.cell_far ⟨m, 0, none⟩ (by simp; omega) (Ne.symm AG.out)).trans (CA.out _)))
      all_goals
        go_wp2
        go_ret
        have er := HR2.out
        subst er
        rw [HP.out]
        exact ⟨rfl, MMoved.after (below_next hb0 hb1) (put_end hm1.out ho1.out hr1.out hd (HV.out.carry (below_next hb0 hb1)) hown2 hgrow hat)⟩
end Go.Proofs.Qxb6500606a
