/-
  The model valsm: the words that read or lay one value. (Seat 606 alone.)
-/
import Derived.Test.Qxb6500606aMPlus
namespace Go.Proofs.Qxb6500606a
open Go.ChangeShapes Go.WideShapes Go.ChangeAt Go.RowKit
attribute [local go_sem] str_size str_app str_app1 str_1app str_toList str_get
set_option linter.unusedVariables false

def MWord (f : Nat) (w : World) (m : Nat) (g : Option Nat) (r : Int × St) : Prop := Calls Try.prog f #[.pointer (some ⟨m, 0, none⟩)] w fun e w' => e = .returned (.int .i64 r.1) ∧ MMoved w m g r.2 w'
theorem MStk.hasTop {w : World} {m : Nat} {g : Option Nat} {vs : St} (h : MStk w m g vs) (hn : 0 < vs.length) : ∃ b cap cs, w.cell? ⟨m, 0, none⟩ = some (.slice (some ⟨b, 0, none⟩) vs.length cap) ∧ w.rangeAt b ((vs.length - 1) * 4) cs ∧ MV w (ex g) (top vs) cs ∧ b < w.heap.size ∧ g = some b := by
  obtain ⟨a, cap, css, h1, h2, h3, h4, _⟩ := h.open
  obtain ⟨b, cap', cs, ek, hb, _, hR, hv, hbl⟩ := h4.at (top_at hn)
  cases ek
  exact ⟨b, cap, cs, h2, hR, hv, hbl, h3.symm.trans hb⟩
theorem MStk.hasTwo {w : World} {m : Nat} {g : Option Nat} {vs : St} (h : MStk w m g vs) (hn : 1 < vs.length) : ∃ b cap cs cs2, w.cell? ⟨m, 0, none⟩ = some (.slice (some ⟨b, 0, none⟩) vs.length cap) ∧ w.rangeAt b ((vs.length - 1) * 4) cs ∧ MV w (ex g) (top vs) cs ∧ w.rangeAt b ((vs.length - 2) * 4) cs2 ∧ MV w (ex g) (subtop vs) cs2 ∧ b < w.heap.size ∧ g = some b := by
  obtain ⟨a, cap, css, h1, h2, h3, h4, _⟩ := h.open
  obtain ⟨b, cap', cs, ek, hb, _, hR, hv, hbl⟩ := h4.at (top_at (by omega))
  cases ek
  obtain ⟨b', cap', cs2, ek, hb', _, hR2, hv2, _⟩ := h4.at (sub_at hn)
  cases ek
  exact ⟨b, cap, cs, cs2, h2, hR, hv, hR2, hv2, hbl, h3.symm.trans hb⟩
theorem MStk.lt {w : World} {m : Nat} {g : Option Nat} {vs : St} (h : MStk w m g vs) : m < w.heap.size ∧ ∀ x, g = some x → x < w.heap.size := by
  obtain ⟨k, css, h1, h2, h3⟩ := h
  refine ⟨lt_of_heap h1, fun x hx => ?_⟩
  obtain ⟨a, cap, rfl, _, h4, _⟩ := ownsRow_slice4 h3.row
  obtain ⟨_, cur, h6, _⟩ := h4 x (h2.trans hx)
  exact lt_of_heap h6
theorem cells_of_range {w : World} {b o : Nat} {t n : Int} {s : List UInt8} {k : Value} (h : w.rangeAt b o (mC t n s k)) : w.cell? ⟨b, o, none⟩ = some (.int .i64 t) ∧ w.cell? ⟨b, o + 1, none⟩ = some (.int .i64 n) ∧ w.cell? ⟨b, o + 2, none⟩ = some (.string (str s)) ∧ w.cell? ⟨b, o + 3, none⟩ = some k := by
  exact ⟨h 0 _ rfl, h 1 _ rfl, h 2 _ rfl, h 3 _ rfl⟩
theorem putF_small {d : Nat} {v : V} {vs : St} (h : (text v).length ≤ 30) : putF d v vs = if 5 ≤ vs.length - d then (3, vs) else lay d v vs := by
  unfold putF; rw [if_neg (by omega)]
theorem putF_room {d : Nat} {v : V} {vs : St} (h : (text v).length ≤ 30) (h5 : vs.length ≤ 5) (hd : 0 < d) (hv : d ≤ vs.length) : putF d v vs = lay d v vs := by
  rw [putF_small h, if_neg (by omega)]
theorem putF_big {d : Nat} {v : V} {vs : St} (h5 : vs.length ≤ 5) (hd : 0 < d) (hv : d ≤ vs.length) : putF d v vs = if 30 < (text v).length then (7, vs) else lay d v vs := by
  unfold putF; rw [if_neg (by omega : ¬ 5 ≤ vs.length - d)]
section
variable {w : World} {m : Nat} {g : Option Nat} {vs : St}
theorem under_c0 (h : MStk w m g vs) (h0 : vs.length = 0) : ∃ a cap, w.cell? ⟨m, 0, none⟩ = some (.slice a 0 cap) := by
  obtain ⟨a, cap, css, _, h2, _⟩ := h.open
  rw [h0] at h2
  exact ⟨a, cap, h2⟩
theorem depth_c0 (h : MStk w m g vs) : ∃ a cap, w.cell? ⟨m, 0, none⟩ = some (.slice a vs.length cap) := by
  obtain ⟨a, cap, css, _, h2, _⟩ := h.open
  exact ⟨a, cap, h2⟩
theorem mNeg_under (h : MStk w m g vs) (h0 : vs.length = 0) : MWord 54 w m g (negF vs) := by
  obtain ⟨a, cap, c0⟩ := under_c0 h h0
  have HR : Hid (negF vs = (4, vs)) := by show negF vs = _; unfold negF; rw [if_pos h0]
  have HH := hide h
  clear h h0
  unfold MWord
  go_enter Try.func54, Try.ntmps54
  go_wp2
  go_ret
  rw [HR.out]
  exact ⟨rfl, MMoved.same HH.out⟩
theorem mLen_under (h : MStk w m g vs) (h0 : vs.length = 0) : MWord 55 w m g (lenF vs) := by
  obtain ⟨a, cap, c0⟩ := under_c0 h h0
  have HR : Hid (lenF vs = (4, vs)) := by show lenF vs = _; unfold lenF; rw [if_pos h0]
  have HH := hide h
  clear h h0
  unfold MWord
  go_enter Try.func55, Try.ntmps55
  go_wp2
  go_ret
  rw [HR.out]
  exact ⟨rfl, MMoved.same HH.out⟩
theorem mFold_under (h : MStk w m g vs) (h0 : vs.length = 0) : MWord 57 w m g (foldF vs) := by
  obtain ⟨a, cap, c0⟩ := under_c0 h h0
  have HR : Hid (foldF vs = (4, vs)) := by show foldF vs = _; unfold foldF; rw [if_pos h0]
  have HH := hide h
  clear h h0
  unfold MWord
  go_enter Try.func57, Try.ntmps57
  go_wp2
  go_ret
  rw [HR.out]
  exact ⟨rfl, MMoved.same HH.out⟩
theorem mDup_under (h : MStk w m g vs) (h0 : vs.length = 0) : MWord 58 w m g (dupF vs) := by
  obtain ⟨a, cap, c0⟩ := under_c0 h h0
  have HR : Hid (dupF vs = (4, vs)) := by show dupF vs = _; unfold dupF; rw [if_pos h0]
  have HH := hide h
  clear h h0
  unfold MWord
  go_enter Try.func58, Try.ntmps58
  go_wp2
  go_ret
  rw [HR.out]
  exact ⟨rfl, MMoved.same HH.out⟩
theorem mDrop_under (h : MStk w m g vs) (h0 : vs.length = 0) : MWord 59 w m g (dropF vs) := by
  obtain ⟨a, cap, c0⟩ := under_c0 h h0
  have HR : Hid (dropF vs = (4, vs)) := by show dropF vs = _; unfold dropF; rw [if_pos h0]
  have HH := hide h
  clear h h0
  unfold MWord
  go_enter Try.func59, Try.ntmps59
  go_wp2
  go_ret
  rw [HR.out]
  exact ⟨rfl, MMoved.same HH.out⟩
theorem mCons_under (h : MStk w m g vs) (h0 : vs.length < 2) : MWord 51 w m g (consF vs) := by
  obtain ⟨a, cap, c0⟩ := depth_c0 h
  have HR : Hid (consF vs = (4, vs)) := by show consF vs = _; unfold consF; rw [if_pos h0]
  have HH := hide h
  have hd : decide ((vs.length : Int) < 2) = true := decide_eq_true (by omega)
  clear h h0
  unfold MWord
  go_enter Try.func51, Try.ntmps51
  go_wp2
  go_ret
  rw [HR.out]
  exact ⟨rfl, MMoved.same HH.out⟩
theorem mPair_under (h : MStk w m g vs) (h0 : vs.length < 2) : MWord 52 w m g (pairF vs) := by
  obtain ⟨a, cap, c0⟩ := depth_c0 h
  have HR : Hid (pairF vs = (4, vs)) := by show pairF vs = _; unfold pairF; rw [if_pos h0]
  have HH := hide h
  have hd : decide ((vs.length : Int) < 2) = true := decide_eq_true (by omega)
  clear h h0
  unfold MWord
  go_enter Try.func52, Try.ntmps52
  go_wp2
  go_ret
  rw [HR.out]
  exact ⟨rfl, MMoved.same HH.out⟩
theorem mAdd_under (h : MStk w m g vs) (h0 : vs.length < 2) : MWord 53 w m g (addF vs) := by
  obtain ⟨a, cap, c0⟩ := depth_c0 h
  have HR : Hid (addF vs = (4, vs)) := by show addF vs = _; unfold addF; rw [if_pos h0]
  have HH := hide h
  have hd : decide ((vs.length : Int) < 2) = true := decide_eq_true (by omega)
  clear h h0
  unfold MWord
  go_enter Try.func53, Try.ntmps53
  go_wp2
  go_ret
  rw [HR.out]
  exact ⟨rfl, MMoved.same HH.out⟩
theorem mFind_under (h : MStk w m g vs) (h0 : vs.length < 2) : MWord 56 w m g (findF vs) := by
  obtain ⟨a, cap, c0⟩ := depth_c0 h
  have HR : Hid (findF vs = (4, vs)) := by show findF vs = _; unfold findF; rw [if_pos h0]
  have HH := hide h
  have hd : decide ((vs.length : Int) < 2) = true := decide_eq_true (by omega)
  clear h h0
  unfold MWord
  go_enter Try.func56, Try.ntmps56
  go_wp2
  go_ret
  rw [HR.out]
  exact ⟨rfl, MMoved.same HH.out⟩
theorem mDepth (h : MStk w m g vs) : Calls Try.prog 62 #[.pointer (some ⟨m, 0, none⟩)] w fun e w' => e = .returned (.int .i64 vs.length) ∧ w' = w := by
  obtain ⟨a, cap, c0⟩ := depth_c0 h
  clear h
  go_enter Try.func62, Try.ntmps62
  go_wp2
  go_ret
  exact ⟨rfl, rfl⟩
set_option maxHeartbeats 1000000 in
theorem mDup (h : MStk w m g vs) (hok : Okay vs) (hwf : ∀ v ∈ vs, Wf v) : MWord 58 w m g (dupF vs) := by
  by_cases h0 : vs.length = 0
  · exact mDup_under h h0
  · obtain ⟨b, cap, cs, c0, hR, hv, hbl, hgb⟩ := h.hasTop (by omega)
    have hlt := hok.top (by omega)
    have hw := hwf _ (List.mem_of_getElem? (top_at (by omega)))
    have hput := hide (put_calls h hok.1 0 (Nat.zero_le _) hv hw (by omega))
    have HR : Hid (dupF vs = putF 0 (top vs) vs) := by
      show dupF vs = _
      rw [putF_small hlt]; unfold dupF; rw [if_neg h0]; rfl
    have h4 := hide hv.len
    have hR' := hide hR
    obtain ⟨p, hp⟩ : ∃ p, vs.length = p + 1 := ⟨vs.length - 1, by omega⟩
    rw [hp] at c0
    rw [hp, Nat.add_sub_cancel] at hR'
    have hp4 : p < 5 := by have := hok.1; omega
    clear h hok hwf h0 hR hv hw hlt hp
    unfold MWord
    go_enter Try.func58, Try.ntmps58
    go_wp2_with (first | (refine wpList_load_mid rfl 79 _ rfl b (p * 4) rfl cs _ hR'.out Try.underlying79 rfl (info79 cs h4.out) ?_) | (go_at_call 81; refine hput.out.mono ?_; rintro e w1 ⟨rfl, hm1⟩))
    go_ret
    rw [HR.out]
    exact ⟨rfl, hm1⟩
theorem mPush (h : MStk w m g vs) (hok : Okay vs) (k n : Int) (s : List UInt8) (hn : I64 n) : Calls Try.prog 50 #[.pointer (some ⟨m, 0, none⟩), .int .i64 k, .int .i64 n, .string (str s)] w fun e w' => e = .returned (.int .i64 (pushF k n s vs).1) ∧ MMoved w m g (pushF k n s vs).2 w' := by
  have hnil : MV w (ex g) .nil (mC 3 0 [] (.slice none 0 0)) := .kids .nil _ [] rfl (World.ownsRow_nil w _ _ _) (fun b hb => by cases hb) rfl (fun c hc => by cases hc) (fun _ => rfl) (fun i e cs he _ => by simp [parts, kind, elems] at he)
  by_cases h6 : 6 < s.length
  · have hd : decide ((s.length : Int) > 6) = true := decide_eq_true (by omega)
    have HR : Hid (pushF k n s vs = (1, vs)) := by show pushF k n s vs = _; unfold pushF; rw [if_pos h6]
    have HH := hide h
    clear h hnil
    go_enter Try.func50, Try.ntmps50
    go_wp2
    go_ret
    rw [HR.out]
    exact ⟨rfl, MMoved.same HH.out⟩
  have hd : decide ((s.length : Int) > 6) = false := decide_eq_false (by omega)
  by_cases k1 : k = 1
  · have hput := hide (put_calls h hok.1 0 (Nat.zero_le _) (.int n hn) (wf_vint hn) (by have := text_vint n; omega))
    have HR : Hid (pushF k n s vs = putF 0 (vint n) vs) := by
      show pushF k n s vs = _
      rw [putF_small (text_vint n)]; unfold pushF; rw [if_neg h6, if_pos k1]; rfl
    subst k1
    clear h hnil
    go_enter Try.func50, Try.ntmps50
    go_wp2_with (go_at_call 81; refine hput.out.mono ?_; rintro e w1 ⟨rfl, hm1⟩)
    go_ret
    rw [HR.out]
    exact ⟨rfl, hm1⟩
  have q1 : (k == 1) = false := beq_false_of_ne k1
  by_cases k2 : k = 2
  · have hts : (text (vstr s)).length ≤ 30 := by rw [text_str]; have := itoa_length s.length; simp; omega
    have hput := hide (put_calls (v := vstr s) h hok.1 0 (Nat.zero_le _) (.str s) ⟨rfl, .inr (.inl ⟨rfl, rfl, rfl, rfl⟩)⟩ (by omega))
    have HR : Hid (pushF k n s vs = putF 0 (vstr s) vs) := by
      show pushF k n s vs = _
      rw [putF_small hts]; unfold pushF; rw [if_neg h6, if_neg k1, if_pos k2]; rfl
    subst k2
    clear h hnil hts
    go_enter Try.func50, Try.ntmps50
    go_wp2_with (go_at_call 81; refine hput.out.mono ?_; rintro e w1 ⟨rfl, hm1⟩)
    go_ret
    rw [HR.out]
    exact ⟨rfl, hm1⟩
  have q2 : (k == 2) = false := beq_false_of_ne k2
  by_cases k3 : k = 3
  · have hput := hide (put_calls h hok.1 0 (Nat.zero_le _) hnil trivial (by decide))
    have HR : Hid (pushF k n s vs = putF 0 .nil vs) := by
      show pushF k n s vs = _
      rw [putF_small (by decide)]; unfold pushF; rw [if_neg h6, if_neg k1, if_neg k2, if_pos k3]; rfl
    subst k3
    clear h hnil
    go_enter Try.func50, Try.ntmps50
    go_wp2_with (go_at_call 81; refine hput.out.mono ?_; rintro e w1 ⟨rfl, hm1⟩)
    go_ret
    rw [HR.out]
    exact ⟨rfl, hm1⟩
  have q3 : (k == 3) = false := beq_false_of_ne k3
  have HR : Hid (pushF k n s vs = (2, vs)) := by show pushF k n s vs = _; unfold pushF; rw [if_neg h6, if_neg k1, if_neg k2, if_neg k3]
  have HH := hide h
  clear h hnil
  go_enter Try.func50, Try.ntmps50
  go_wp2
  go_ret
  rw [HR.out]
  exact ⟨rfl, MMoved.same HH.out⟩
/-- The stack's slice cut short. -/
theorem mcut (h : MStk w m g vs) {a : Option Addr} {cap : Nat} (hc : w.cell? ⟨m, 0, none⟩ = some (.slice a vs.length cap)) (q : Nat) (hq : q ≤ vs.length) : MMoved w m g (vs.take q) (w.setCell ⟨m, 0, none⟩ (.slice a q cap)) := by
  obtain ⟨a', cap', css, h1, h2, h3, h4, _⟩ := h.open
  rw [hc] at h2
  cases h2
  have hk : ∀ b c, w.heap[b]? = some (.cells c 79) → g ≠ some b → (w.setCell ⟨m, 0, none⟩ (.slice a q cap)).heap[b]? = some (.cells c 79) ∧ g ≠ some b := fun b c e hne => ⟨(Below.heap_setCell w _ _ b (by rintro rfl; rw [h1] at e; simp at e)).trans e, hne⟩
  have hlen : (vs.take q).length = q := by simp; omega
  refine ⟨g, ⟨.slice a q cap, css.take q, ?_, ?_, ⟨?_, ?_, ?_, ?_⟩⟩, fun b hb => .inl hb, (Only.refl _ _).setCell (.inl (.inl rfl)) _⟩
  · rw [heap_setCell_same w m 0 _ _ _ h1]; rfl
  · rw [← h3]; cases a <;> rfl
  · rw [hlen, ← flatten_take4 _ _ h4.four]
    have := ownsRow_prefix4 h4.row q hq
    refine ⟨this.1, orMap this.2 id ?_⟩
    rintro ⟨g', c', cur, e1, e2, e3, e4⟩
    exact ⟨g', c', cur, e1, e2, (Below.heap_setCell w _ _ g' (by rintro rfl; rw [h1] at e3; simp at e3)).trans e3, e4⟩
  · simp [h4.len]
  · exact fun c hc => h4.four c (List.mem_of_mem_take hc)
  · intro i e cs he hcs
    have hi : i < q := by have := (List.getElem?_eq_some_iff.1 he).1; rw [hlen] at this; exact this
    rw [List.getElem?_take_of_lt hi] at he hcs
    exact (h4.rep i e cs he hcs).keep hk
theorem mDrop (h : MStk w m g vs) : MWord 59 w m g (dropF vs) := by
  by_cases h0 : vs.length = 0
  · exact mDrop_under h h0
  · obtain ⟨a, cap, css, hh, c0, _, hr, z0⟩ := h.open
    have hcap := ownsRow_cap4 hr.row
    have HM := hide (mcut h c0 (vs.length - 1) (by omega))
    have HR : Hid (dropF vs = (0, vs.take (vs.length - 1))) := by show dropF vs = _; unfold dropF; rw [if_neg h0]
    obtain ⟨p, hp⟩ : ∃ p, vs.length = p + 1 := ⟨vs.length - 1, by omega⟩
    rw [hp] at c0 hcap
    rw [hp, Nat.add_sub_cancel] at HM HR
    have hpb : p + 1 ≤ 9223372036854775807 := by rw [← hp]; exact (ownsRow_slice4 hr.row).choose_spec.choose_spec.2.1
    clear h hh hr h0 hp
    unfold MWord
    go_enter Try.func59, Try.ntmps59
    go_wp2
    go_ret
    rw [HR.out]
    exact ⟨rfl, HM.out⟩
theorem mTopInt (h : MStk w m g vs) (hok : Okay vs) : Calls Try.prog 60 #[.pointer (some ⟨m, 0, none⟩)] w fun e w' => e = .returned (.tuple #[.int .i64 (topIntF vs).1, .int .i64 (topIntF vs).2]) ∧ w' = w := by
  by_cases h0 : vs.length = 0
  · obtain ⟨a, cap, c0⟩ := under_c0 h h0
    have HR : Hid (topIntF vs = (0, 4)) := by show topIntF vs = _; unfold topIntF; rw [if_pos h0]
    clear h h0
    go_enter Try.func60, Try.ntmps60
    go_wp2
    go_ret2
    rw [HR.out]
    exact ⟨rfl, rfl⟩
  · obtain ⟨b, cap, cs, c0, hR, hv, hbl, hgb⟩ := h.hasTop (by omega)
    obtain ⟨n, s, a, ml, mc, rfl⟩ := hv.cells
    have HN : Hid (kind (top vs) = 1 → num (top vs) = n) := fun e => by
      obtain ⟨x, e1, e2, _⟩ := hv.ofInt e
      have e3 : some (Value.int .i64 n) = some (Value.int .i64 x) := congrArg (fun l : List Value => l[1]?) e2
      cases e3
      rw [e1]; rfl
    obtain ⟨p, hp⟩ : ∃ p, vs.length = p + 1 := ⟨vs.length - 1, by omega⟩
    rw [hp] at c0
    rw [hp, Nat.add_sub_cancel] at hR
    obtain ⟨d0, d1, _, _⟩ := cells_of_range hR
    have hp4 : p < 5 := by have := hok.1; omega
    by_cases hk : kind (top vs) = 1
    · have HR : Hid (topIntF vs = (n, 0)) := by show topIntF vs = _; unfold topIntF; rw [if_neg h0, if_pos hk, HN.out hk]
      have hq : ((kind (top vs) : Int) != 1) = false := by simp [hk]
      clear h hok h0 hR hv hp hk
      generalize kind (top vs) = kk at *
      go_enter Try.func60, Try.ntmps60
      go_wp2
      go_ret2
      rw [HR.out]
      exact ⟨rfl, rfl⟩
    · have HR : Hid (topIntF vs = (0, 2)) := by show topIntF vs = _; unfold topIntF; rw [if_neg h0, if_neg hk]
      have hq : ((kind (top vs) : Int) != 1) = true := by simp; omega
      clear h hok h0 hR hv hp hk
      generalize kind (top vs) = kk at *
      go_enter Try.func60, Try.ntmps60
      go_wp2
      go_ret2
      rw [HR.out]
      exact ⟨rfl, rfl⟩
theorem lenV_kids {v : V} (hw : Wf v) (hc : canLen v = true) : lenV v = (bytes v).length + (kidsOf v).length := by
  rcases wf_cases hw with rfl | ⟨n, rfl, hn⟩ | ⟨s, rfl⟩ | ⟨l, r, rfl, hL, h1, h2⟩ | ⟨l, r, rfl, h1, h2⟩
  · rfl
  · cases hc
  · rfl
  · show _ = 0 + _; rw [Nat.zero_add]; rfl
  · rfl
set_option maxHeartbeats 1000000 in
theorem mLen (h : MStk w m g vs) (hok : Okay vs) (hwf : ∀ v ∈ vs, Wf v) : MWord 55 w m g (lenF vs) := by
  by_cases h0 : vs.length = 0
  · exact mLen_under h h0
  · obtain ⟨b, cap, cs, c0, hR, hv, hbl, hgb⟩ := h.hasTop (by omega)
    have hlt := hok.top (by omega)
    have hw := hwf _ (List.mem_of_getElem? (top_at (by omega)))
    have hsm := small_of hw hlt
    obtain ⟨k, css, rfl, hrw, _⟩ := hv.open4 hw
    obtain ⟨a, kc, rfl, _⟩ := ownsRow_slice4 hrw.row
    have hh := hide (hasI_calls _ hw)
    have q3 := canI_len hw
    have hbW : Below w.heap.size w (w.alloc (.cells #[.int .i64 (kind (top vs)), .int .i64 (num (top vs)), .string (str (bytes (top vs))), .slice a (kidsOf (top vs)).length kc] 79)) := below_alloc (Below.refl _ _)
    have hLK : canLen (top vs) = true → lenV (top vs) = (bytes (top vs)).length + (kidsOf (top vs)).length := lenV_kids hw
    have hput : ∀ x : Int, I64 x → Calls Try.prog 81 #[.pointer (some ⟨m, 0, none⟩), .int .i64 1, .agg #[.int .i64 1, .int .i64 x, .string (str []), .slice none 0 0]] (w.alloc (.cells #[.int .i64 (kind (top vs)), .int .i64 (num (top vs)), .string (str (bytes (top vs))), .slice a (kidsOf (top vs)).length kc] 79)) fun e w' => e = .returned (.int .i64 (putF 1 (vint x) vs).1) ∧ MMoved (w.alloc (.cells #[.int .i64 (kind (top vs)), .int .i64 (num (top vs)), .string (str (bytes (top vs))), .slice a (kidsOf (top vs)).length kc] 79)) m g (putF 1 (vint x) vs).2 w' := fun x hx =>
      put_calls (h.below hbW) hok.1 1 (by omega) (.int x hx) (wf_vint hx) (by have := text_vint x; omega)
    obtain ⟨p, hp⟩ : ∃ p, vs.length = p + 1 := ⟨vs.length - 1, by omega⟩
    rw [hp] at c0
    rw [hp, Nat.add_sub_cancel] at hR
    have hR' := hide hR
    have hp4 : p < 5 := by have := hok.1; omega
    have HH := hide h
    have HBW := hide hbW
    have h5 := hok.1
    have hn1 : 1 ≤ vs.length := by omega
    by_cases hc : canLen (top vs) = true
    · rw [hc] at q3
      have hl := hLK hc
      have hput2 := hput (((bytes (top vs)).length : Int) + ((kidsOf (top vs)).length : Int)) (by constructor <;> omega)
      have HR : Hid (lenF vs = putF 1 (vint (((bytes (top vs)).length : Int) + ((kidsOf (top vs)).length : Int))) vs) := by
        show lenF vs = _
        rw [putF_room (text_vint _) h5 (by omega) hn1]
        unfold lenF; rw [if_neg h0, if_pos hc, hl, Int.natCast_add]
      have hput3 := hide hput2
      obtain ⟨hs1, hs2⟩ := hsm
      clear h hok hwf h0 hR hv hw hlt hp hput hput2 hrw hLK hl hc hbW
      generalize kind (top vs) = kk at *
      generalize num (top vs) = nn at *
      generalize bytes (top vs) = bb at *
      generalize kidsOf (top vs) = ks at *
      unfold MWord
      go_enter Try.func55, Try.ntmps55
      go_wp2_with (first | (refine wpList_load_mid rfl 79 _ rfl b (p * 4) rfl [.int .i64 kk, .int .i64 nn, .string (str bb), .slice a ks.length kc] _ hR'.out Try.underlying79 rfl (info79 _ rfl) ?_) | (go_at_call 83; refine (hh.out _ (by decide) _).mono ?_; rintro e w' ⟨rfl, hw⟩; subst w') | (go_at_call 81; refine hput3.out.mono ?_; rintro e w1 ⟨rfl, hm1⟩))
      go_ret
      rw [HR.out]
      exact ⟨rfl, MMoved.after HBW.out hm1⟩
    · have hcf : canLen (top vs) = false := by simpa using hc
      rw [hcf] at q3
      have HR : Hid (lenF vs = (5, vs)) := by
        show lenF vs = _
        unfold lenF; rw [if_neg h0, if_neg hc]
      clear h hok hwf h0 hR hv hw hlt hp hput hrw hLK hc hbW hsm
      generalize kind (top vs) = kk at *
      generalize num (top vs) = nn at *
      generalize bytes (top vs) = bb at *
      generalize kidsOf (top vs) = ks at *
      unfold MWord
      go_enter Try.func55, Try.ntmps55
      go_wp2_with (first | (refine wpList_load_mid rfl 79 _ rfl b (p * 4) rfl [.int .i64 kk, .int .i64 nn, .string (str bb), .slice a ks.length kc] _ hR'.out Try.underlying79 rfl (info79 _ rfl) ?_) | (go_at_call 83; refine (hh.out _ (by decide) _).mono ?_; rintro e w' ⟨rfl, hw⟩; subst w'))
      go_ret
      rw [HR.out]
      exact ⟨rfl, MMoved.below HH.out HBW.out⟩
end
end Go.Proofs.Qxb6500606a
