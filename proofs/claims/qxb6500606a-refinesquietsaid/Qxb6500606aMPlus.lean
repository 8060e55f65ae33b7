/-
  The model valsm: Plus. (Seat 606 alone.)
-/
import Derived.Test.Qxb6500606aMPut
import Derived.Laws.AppendOwnNone
namespace Go.Proofs.Qxb6500606a
open Go.ChangeShapes Go.WideShapes Go.ChangeAt Go.RowKit
attribute [local go_sem] str_size str_app str_app1 str_1app str_toList str_get
set_option linter.unusedVariables false

theorem grown_refl (w : World) (r : Option Nat) : w.grownBy w r := ⟨rfl, rfl, rfl, Nat.le_refl _, fun _ _ _ => rfl⟩
/-- The cells of a row. -/
theorem MRow.news {w : World} {g : Nat → Prop} {k : Value} {css : List (List Value)} {vs : List V} (h : MRow w g k css vs) : css.flatten.length = vs.length * 4 ∧ (∀ u ∈ css.flatten, u.oneCell' = true) ∧ (∀ b, k.ownBlock = some b → ∀ j u, css.flatten[j]? = some u → w.cell? ((⟨b, 0, none⟩ : Addr).add j) = some u) := by
  refine ⟨by rw [flat_len4 css h.four, h.len], fun u hu => ?_, fun b hb j u hj => ?_⟩
  · obtain ⟨c, hc, hu⟩ := List.mem_flatten.1 hu
    obtain ⟨i, hi⟩ := List.getElem?_of_mem hc
    have hil : i < vs.length := by rw [← h.len]; exact (List.getElem?_eq_some_iff.1 hi).1
    exact (h.rep i _ c (List.getElem?_eq_getElem hil) hi).one u hu
  · obtain ⟨a, cap, rfl, _, h1, _⟩ := ownsRow_slice4 h.row
    obtain ⟨rfl, cur, h3, _, h5, _⟩ := h1 b hb
    rw [Addr.add_mid]
    rw [← h5] at hj
    have hl : j < vs.length * 4 := by have := (List.getElem?_eq_some_iff.1 hj).1; rw [List.length_take] at this; omega
    rw [List.getElem?_take_of_lt hl] at hj
    simp only [World.cell?, h3]
    simpa using hj
/-- 'append(x, y...)', y a row of values. -/
theorem wpList_append_kids {w : World} {ops : Array Oper} {rest : List Oper} {o : Oper} {a : Act} {Q : Exit → Act → World → Prop} (hgd : o.guard = none) (s x : Operand) (ho : o.op = .call { callee := .builtin .append, args := #[s, x], argTypes := #[61, 61] })
    (base : Nat) (v : Value) (n : Nat) (xs : List Value) (hs : a.eval s = v) (hown : w.ownsRow base 79 4 v n xs) (hbase : base ≤ w.heap.size) (y : Value) {g : Nat → Prop} {css : List (List Value)} {ps : List V} (hx : a.eval x = y) (hr : MRow w g y css ps) (hz : ps = [] → y = .slice none 0 0) (hn : n + ps.length ≤ 100000)
    (h : ∀ a' c' w', w'.ownsRow base 79 4 (.slice a' (n + ps.length) c') (n + ps.length) (xs ++ css.flatten) → w.grownBy w' v.ownBlock → ((Value.slice a' (n + ps.length) c').ownBlock = v.ownBlock ∨ (Value.slice a' (n + ps.length) c').ownBlock = some w.heap.size) → (ps = [] → .slice a' (n + ps.length) c' = v) → wpList Try.prog ops Q rest (a.put o.dst (.slice a' (n + ps.length) c')) w') :
    wpList Try.prog ops Q (o :: rest) a w := by
  obtain ⟨i0, hi0, hz0, hz1, hz2⟩ := info_parts infoM
  obtain ⟨hl, h1, hc⟩ := hr.news
  by_cases hp : ps = []
  · have hy := hz hp
    subst hp
    have hf : css.flatten = [] := List.eq_nil_of_length_eq_zero (by rw [hl]; rfl)
    refine wpList_append_own_none hgd s x 61 ho base 79 i0 4 Try.underlying61 hi0 v n xs hs hown (hx.trans hy) ?_
    have hfm : ∃ a' c', v = .slice a' n c' := by
      rcases hown.2 with ⟨e, hn0⟩ | ⟨g', cap, cur, e, _⟩
      · exact ⟨none, 0, by rw [e, hn0]⟩
      · exact ⟨_, cap, e⟩
    obtain ⟨a', c', rfl⟩ := hfm
    refine h a' c' w ?_ (grown_refl _ _) (.inl rfl) (fun _ => rfl)
    rw [hf, List.append_nil]; exact hown
  · have hpl : 0 < ps.length := List.length_pos_iff.2 hp
    obtain ⟨ay, cy, rfl, _, h2, h3⟩ := ownsRow_slice4 hr.row
    obtain ⟨b, hb⟩ := h3 hpl
    obtain ⟨rfl, cur, _⟩ := h2 b hb
    refine wpList_append_lies w hgd s x 61 ho base 79 i0 _ 4 56 Try.underlying61 hi0 hz0 hz1 hz2 rfl (by omega) v n xs hs hown ⟨b, 0, none⟩ ps.length cy css.flatten hx hl (hc b hb) h1 hpl (by unfold maxLen; omega) (by omega) hbase w.heap.size rfl ?_
    intro g' cap' w' ho' hg' hat hlt
    refine h _ cap' w' ho' hg' ?_ (fun e => absurd e hp)
    rcases hat with e | e
    · exact .inl e.symm
    · exact .inr (by rw [← e]; rfl)
theorem canIter_kind {v : V} (hw : Wf v) : canIter v = true ↔ (kind v = 3 ∨ kind v = 4) := by
  rcases kinds5 hw with e | e | e | e <;> simp [canIter, e]
theorem sum_fields {a b : V} (ha : Wf a) (hb : Wf b) (hk : kind b = kind a) (h4 : kind a ≠ 4) : kind (sumV a b) = kind a ∧ num (sumV a b) = wr (num a + num b) ∧ bytes (sumV a b) = bytes a ++ bytes b ∧ kidsOf (sumV a b) = kidsOf a ++ kidsOf b ∧ Wf (sumV a b) := by
  have hw0 : wr (0 + 0) = 0 := by decide
  rcases wf_cases ha with rfl | ⟨n, rfl, hn⟩ | ⟨s, rfl⟩ | ⟨l, q, rfl, hL, w1, w2⟩ | ⟨l, q, rfl, w1, w2⟩
  · rcases wf_cases hb with rfl | ⟨m, rfl, _⟩ | ⟨u, rfl⟩ | ⟨l, q, rfl, _⟩ | ⟨l, q, rfl, _⟩
    · exact ⟨rfl, hw0.symm, rfl, rfl, trivial⟩
    · cases hk
    · cases hk
    · exact ⟨rfl, hw0.symm, rfl, rfl, hb⟩
    · cases hk
  · rcases wf_cases hb with rfl | ⟨m, rfl, _⟩ | ⟨u, rfl⟩ | ⟨l, q, rfl, _⟩ | ⟨l, q, rfl, _⟩
    · cases hk
    · exact ⟨rfl, rfl, rfl, rfl, wf_vint (wr_i64 _)⟩
    · cases hk
    · cases hk
    · cases hk
  · rcases wf_cases hb with rfl | ⟨m, rfl, _⟩ | ⟨u, rfl⟩ | ⟨l, q, rfl, _⟩ | ⟨l, q, rfl, _⟩
    · cases hk
    · cases hk
    · exact ⟨rfl, hw0.symm, rfl, rfl, ⟨rfl, .inr (.inl ⟨rfl, rfl, rfl, rfl⟩)⟩⟩
    · cases hk
    · cases hk
  · have hLb : isL b = true := by rcases wf_cases hb with rfl | ⟨m, rfl, _⟩ | ⟨u, rfl⟩ | ⟨l, q, rfl, _⟩ | ⟨l, q, rfl, _⟩ <;> first | rfl | cases hk
    have hkb : kidsOf b = elems b := by
      have : canIter b = true := (canIter_kind hb).2 (.inl hk)
      unfold kidsOf parts; rw [if_pos this, if_neg (by rw [hk]; show ¬ (3 : Nat) = 4; decide)]
    have hnb : num b = 0 ∧ bytes b = [] := by rcases wf_cases hb with rfl | ⟨m, rfl, _⟩ | ⟨u, rfl⟩ | ⟨l, q, rfl, _⟩ | ⟨l, q, rfl, _⟩ <;> first | exact ⟨rfl, rfl⟩ | cases hk
    refine ⟨rfl, ?_, ?_, ?_, wf_app ha rfl hb hLb⟩
    · show 0 = wr (0 + num b); rw [hnb.1]; exact hw0.symm
    · show [] = [] ++ bytes b; rw [hnb.2]; rfl
    · show elems (appL (vcons l q) b) = elems (vcons l q) ++ kidsOf b
      rw [hkb]; exact elems_app b ha rfl
  · exact absurd rfl h4
theorem msum_text {a b : V} (ha : Wf a) (hb : Wf b) (hk : kind b = kind a) (h4 : kind a ≠ 4) (la : (text a).length ≤ 30) (lb : (text b).length ≤ 30) : (text (sumV a b)).length ≤ 200 := by
  rcases wf_cases ha with rfl | ⟨n, rfl, hn⟩ | ⟨s, rfl⟩ | ⟨l, q, rfl, hL, w1, w2⟩ | ⟨l, q, rfl, w1, w2⟩
  · show (text b).length ≤ 200; omega
  · have := text_vint (wr (n + num b)); show (text (vint (wr (n + num b)))).length ≤ 200; omega
  · rcases wf_cases hb with rfl | ⟨m, rfl, _⟩ | ⟨u, rfl⟩ | ⟨l, q, rfl, _⟩ | ⟨l, q, rfl, _⟩
    · cases hk
    · cases hk
    · show (text (vstr (s ++ u))).length ≤ 200
      rw [text_str] at *
      have := itoa_length (s ++ u).length
      simp at la lb this ⊢
      omega
    · cases hk
    · cases hk
  · have hLb : isL b = true := by rcases wf_cases hb with rfl | ⟨m, rfl, _⟩ | ⟨u, rfl⟩ | ⟨l, q, rfl, _⟩ | ⟨l, q, rfl, _⟩ <;> first | rfl | cases hk
    show (text (appL (vcons l q) b)).length ≤ 200
    by_cases hbn : b = .nil
    · rw [hbn, app_nil ha rfl]; omega
    · rw [text_app ha hb rfl hLb (by simp) hbn]; simp; omega
  · exact absurd rfl h4
/-- Two rows, one behind the other. -/
theorem MRow.join {w : World} {g : Nat → Prop} {k1 k2 k : Value} {c1 c2 : List (List Value)} {v1 v2 : List V} (h1 : MRow w g k1 c1 v1) (h2 : MRow w g k2 c2 v2) (hr : w.ownsRow 0 79 4 k (v1.length + v2.length) (c1.flatten ++ c2.flatten)) : MRow w g k (c1 ++ c2) (v1 ++ v2) := by
  refine ⟨by rw [List.length_append, List.flatten_append]; exact hr, by simp [h1.len, h2.len], fun c hc => (List.mem_append.1 hc).elim (h1.four c) (h2.four c), fun i e cs he hc => ?_⟩
  by_cases hi : i < v1.length
  · rw [List.getElem?_append_left hi] at he
    rw [List.getElem?_append_left (by rw [h1.len]; exact hi)] at hc
    exact h1.rep i e cs he hc
  · rw [List.getElem?_append_right (by omega)] at he
    rw [List.getElem?_append_right (by rw [h1.len]; omega), h1.len] at hc
    exact h2.rep _ e cs he hc
theorem ownsRow_zero {w : World} {b : Nat} {k : Value} {n : Nat} {xs : List Value} (h : w.ownsRow b 79 4 k n xs) : w.ownsRow 0 79 4 k n xs :=
  ⟨h.1, orMap h.2 id fun ⟨g, cap, cur, a, _, c⟩ => ⟨g, cap, cur, a, Nat.zero_le _, c⟩⟩
/-- What Plus hands back. -/
def MPlusOut (w : World) (g : Nat → Prop) (r : Int × V) (e : Ending) (w' : World) : Prop := ∃ (t n : Int) (s : List UInt8) (a : Option Addr) (m cap : Nat), e = .returned (.tuple #[.agg #[.int .i64 t, .int .i64 n, .string (str s), .slice a m cap], .int .i64 r.1]) ∧ Below w.heap.size w w' ∧ (r.1 = 0 → MV w' g r.2 (mC t n s (.slice a m cap)))
theorem results_row_tmp {P : Program} {fn : Func} {p u : Tmp} {ty : TypeId} (h : fn.results = #[.cell p ty, .tmp u]) (tmps : Array Value) (w : World) (g : Nat) (t : TypeId) (cs : Array Value) (fr : Nat × Nat) (d : TypeDesc)
    (hp : tmps.getD p undef = .pointer (some ⟨g, 0, none⟩)) (hg : w.heap[g]? = some (.cells cs t fr))
    (hu : P.underlying ty = some d) (hd : (match d with | .struct _ | .array _ _ => true | _ => false) = true) (hi : (P.info? ty).map (·.size) = some cs.size) :
    (results fn tmps).run P w = .ok (.tuple #[.agg cs, tmps.getD u undef]) w := by
  have hp' : tmps[p]?.getD undef = .pointer (some ⟨g, 0, none⟩) := by simpa using hp
  simp [results, h, hp', asAddr, run_loadVar_row w g t ty cs fr d hg hu hd hi]
theorem info79a : (Try.prog.info? 79).map (·.size) = some 4 := by kernel_rfl
theorem heap_alloc3_new (w : World) (o1 o2 o3 : Obj) : (((w.alloc o1).alloc o2).alloc o3).heap[w.heap.size + 1 + 1]? = some o3 := by
  have := heap_alloc_new ((w.alloc o1).alloc o2) o3
  simpa only [World.size_alloc] using this
theorem alloc4_rows (w : World) (o1 o2 o3 o4 : Obj) : ((((w.alloc o1).alloc o2).alloc o3).alloc o4).heap[w.heap.size]? = some o1 ∧ ((((w.alloc o1).alloc o2).alloc o3).alloc o4).heap[w.heap.size + 1]? = some o2 ∧ ((((w.alloc o1).alloc o2).alloc o3).alloc o4).heap[w.heap.size + 1 + 1]? = some o3 ∧ ((((w.alloc o1).alloc o2).alloc o3).alloc o4).heap[w.heap.size + 1 + 1 + 1]? = some o4 ∧ ((((w.alloc o1).alloc o2).alloc o3).alloc o4).heap.size = w.heap.size + 1 + 1 + 1 + 1 := by
  refine ⟨heap_before (heap_before (heap_before (heap_alloc_new w o1))), heap_before (heap_before (heap_alloc2_new w o1 o2)), heap_before (heap_alloc3_new w o1 o2 o3), ?_, by simp⟩
  have := heap_alloc_new (((w.alloc o1).alloc o2).alloc o3) o4
  simpa only [World.size_alloc] using this
/-- A Val's four cells, read one by one. -/
theorem cells4 {W : World} {B : Nat} {x0 x1 x2 x3 : Value} (h : W.heap[B]? = some (.cells #[x0, x1, x2, x3] 79)) : W.cell? ⟨B, 0, none⟩ = some x0 ∧ W.cell? ⟨B, 1, none⟩ = some x1 ∧ W.cell? ⟨B, 2, none⟩ = some x2 ∧ W.cell? ⟨B, 3, none⟩ = some x3 ∧ W.frozen? ⟨B, 3, none⟩ = false ∧ ∀ y, (W.setCell ⟨B, 3, none⟩ y).heap[B]? = some (.cells #[x0, x1, x2, y] 79) := by
  refine ⟨by simp [World.cell?, h], by simp [World.cell?, h], by simp [World.cell?, h], by simp [World.cell?, h], frozen_of_row W B 3 _ _ h, fun y => ?_⟩
  rw [heap_setCell_same W B 3 _ _ _ h]; rfl
theorem grown_below {W W' : World} {B : Nat} {row : Option Nat} (hg : W.grownBy W' row) (hB : B ≤ W.heap.size) (hr : ∀ k, row = some k → B ≤ k) : Below B W W' := (Below.refl B W).grown hg hB hr
theorem ownsRow_setRow {w : World} {base : Nat} {k : Value} {n : Nat} {xs : List Value} (h : w.ownsRow base 79 4 k n xs) {b : Nat} (hb : b < base) (cs : Array Value) : (w.setRow b cs).ownsRow base 79 4 k n xs :=
  ⟨h.1, orMap h.2 id fun ⟨g, cap, cur, h1, h2, h3, h4⟩ => ⟨g, cap, cur, h1, h2, (setRow_other w b g cs (by omega)).trans h3, h4⟩⟩
theorem all4 (t n : Int) (s : ByteArray) (a : Option Addr) (m c : Nat) : (#[Value.int .i64 t, .int .i64 n, .string s, .slice a m c] : Array Value).all (·.oneCell') = true := by simp [Value.oneCell']
theorem small_of {v : V} (hw : Wf v) (hl : (text v).length ≤ 30) : (bytes v).length ≤ 30 ∧ (kidsOf v).length ≤ 30 := by
  refine ⟨?_, ?_⟩
  · rcases wf_cases hw with rfl | ⟨n, rfl, hn⟩ | ⟨s, rfl⟩ | ⟨l, r, rfl, hL, h1, h2⟩ | ⟨l, r, rfl, h1, h2⟩
    · exact Nat.zero_le _
    · exact Nat.zero_le _
    · rw [text_str] at hl; simp at hl; show s.length ≤ 30; omega
    · exact Nat.zero_le _
    · exact Nat.zero_le _
  · unfold kidsOf
    by_cases hc : canIter v = true
    · rw [if_pos hc]; have := (partsLe hw hc).2; omega
    · rw [if_neg hc]; exact Nat.zero_le _
section
variable {w : World} {g : Nat → Prop} {a b : V} {ca cb : List Value}
set_option maxRecDepth 10000 in
set_option maxHeartbeats 2000000 in
theorem mplus_pair (ha : MV w g a ca) (hb : MV w g b cb) (wa : Wf a) (wb : Wf b) (hk : kind a = 4) : Calls Try.prog 82 #[.agg ca.toArray, .agg cb.toArray] w (MPlusOut w g (5, .nil)) := by
  obtain ⟨na, sa, aa, ma, capa, rfl⟩ := ha.cells
  obtain ⟨nb, sb, ab, mb, capb, rfl⟩ := hb.cells
  have hh := hide (hasI_calls a wa)
  have q1 : canI (kind a) 1 = false := by rw [hk]; rfl
  clear ha hb wa wb hk
  generalize kind a = ka at *
  go_enter Try.func82, Try.ntmps82
  go_wp2_with (go_at_call 83; refine (hh.out _ (by decide) _).mono ?_; rintro e w' ⟨rfl, hw⟩; subst w')
  refine bodyPost_ret (results_row_tmp rfl _ _ (w.heap.size + 1 + 1) 79 _ (0, 0) _ rfl (heap_alloc3_new w _ _ _) Try.underlying79 rfl info79a) rfl ?_
  exact ⟨0, 0, [], none, 0, 0, rfl, below_alloc (below_alloc (below_alloc (Below.refl _ _))), fun e => by cases e⟩
set_option maxRecDepth 10000 in
set_option maxHeartbeats 2000000 in
theorem mplus_mix (ha : MV w g a ca) (hb : MV w g b cb) (wa : Wf a) (wb : Wf b) (hk : kind a ≠ 4) (hkb : kind b ≠ kind a) : Calls Try.prog 82 #[.agg ca.toArray, .agg cb.toArray] w (MPlusOut w g (6, .nil)) := by
  obtain ⟨na, sa, aa, ma, capa, rfl⟩ := ha.cells
  obtain ⟨nb, sb, ab, mb, capb, rfl⟩ := hb.cells
  have hh := hide (hasI_calls a wa)
  have q1 : canI (kind a) 1 = true := by rcases kinds5 wa with e | e | e | e <;> rw [e] <;> first | rfl | exact absurd e hk
  have q2 : ((kind a : Int) != (kind b : Int)) = true := by simp; omega
  clear ha hb wa wb hk hkb
  generalize kind a = ka at *
  generalize kind b = kb at *
  go_enter Try.func82, Try.ntmps82
  go_wp2_with (go_at_call 83; refine (hh.out _ (by decide) _).mono ?_; rintro e w' ⟨rfl, hw⟩; subst w')
  refine bodyPost_ret (results_row_tmp rfl _ _ (w.heap.size + 1 + 1) 79 _ (0, 0) _ rfl (heap_alloc3_new w _ _ _) Try.underlying79 rfl info79a) rfl ?_
  exact ⟨0, 0, [], none, 0, 0, rfl, below_alloc (below_alloc (below_alloc (Below.refl _ _))), fun e => by cases e⟩
set_option maxRecDepth 10000 in
set_option maxHeartbeats 4000000 in
theorem mplus_same (ha : MV w g a ca) (hb : MV w g b cb) (wa : Wf a) (wb : Wf b) (hgl : ∀ x, g x → x < w.heap.size) (hk : kind a ≠ 4) (hkb : kind b = kind a) (la : (text a).length ≤ 30) (lb : (text b).length ≤ 30) (r : Int × V) (hr : (30 < (text (sumV a b)).length ∧ r = (7, .nil)) ∨ (¬ 30 < (text (sumV a b)).length ∧ r = (0, sumV a b))) :
    Calls Try.prog 82 #[.agg ca.toArray, .agg cb.toArray] w (MPlusOut w g r) := by
  obtain ⟨f1, f2, f3, f4, f5⟩ := sum_fields wa wb hkb hk
  have hst := msum_text wa wb hkb hk la lb
  obtain ⟨k1, css1, rfl, r1, z1, g1⟩ := ha.open4 wa
  obtain ⟨k2, css2, rfl, r2, z2, g2⟩ := hb.open4 wb
  obtain ⟨a1, cap1, rfl, _⟩ := ownsRow_slice4 r1.row
  obtain ⟨a2, cap2, rfl, _⟩ := ownsRow_slice4 r2.row
  have hh := hide (hasI_calls a wa)
  have q1 : canI (kind a) 1 = true := by rcases kinds5 wa with e | e | e | e <;> rw [e] <;> first | rfl | exact absurd e hk
  have q2 : ((kind a : Int) != (kind b : Int)) = false := by simp [hkb]
  have hla : (bytes a).length ≤ 30 ∧ (kidsOf a).length ≤ 30 := small_of wa la
  have hlb : (bytes b).length ≤ 30 ∧ (kidsOf b).length ≤ 30 := small_of wb lb
  have hwr : wrap64 (num a + num b) = wr (num a + num b) := wr_eq _
  have HF := hide (And.intro f1 (And.intro f2 (And.intro f3 (And.intro f4 f5))))
  have HR1 := hide r1
  have HR2 := hide r2
  have HZ1 := hide z1
  have HZ2 := hide z2
  have HG := hide hgl
  have HR := hide hr
  have HST := hide hst
  clear f1 f2 f3 f4 f5 ha hb r1 r2 z1 z2 g1 g2 hr hst
  generalize hka : kind a = ka at *
  generalize hkbb : kind b = kb at *
  generalize hna : num a = na at *
  generalize hnb : num b = nb at *
  generalize hsa : bytes a = sa at *
  generalize hsb : bytes b = sb at *
  generalize hpa : kidsOf a = pa at *
  generalize hpb : kidsOf b = pb at *
  generalize hlpa : pa.length = la1 at *
  generalize hlpb : pb.length = lb1 at *
  clear hk hkb wa wb
  have HW4 : Hid (Below w.heap.size w ((((w.alloc (.cells #[.int .i64 ka, .int .i64 na, .string (str sa), .slice a1 la1 cap1] 79)).alloc (.cells #[.int .i64 kb, .int .i64 nb, .string (str sb), .slice a2 lb1 cap2] 79)).alloc (.cells #[.int .i64 0, .int .i64 0, .string { data := #[] }, .slice none 0 0] 79)).alloc (.cells #[.int .i64 ka, .int .i64 (wr (na + nb)), .string (str (sa ++ sb)), .slice none 0 0] 79))) := below_alloc (below_alloc (below_alloc (below_alloc (Below.refl _ _))))
  go_enter Try.func82, Try.ntmps82
  go_upto_region 6 with (go_at_call 83; refine (hh.out _ (by decide) _).mono ?_; rintro e w' ⟨rfl, hw⟩; subst w')
  have hal := alloc4_rows w (.cells (mC ka na sa (.slice a1 la1 cap1)).toArray 79) (.cells (mC kb nb sb (.slice a2 lb1 cap2)).toArray 79) (.cells #[.int .i64 0, .int .i64 0, .string { data := #[] }, .slice none 0 0] 79) (.cells #[.int .i64 ka, .int .i64 (wr (na + nb)), .string (str (sa ++ sb)), .slice none 0 0] 79)
  replace HW4 := hide HW4.out
  revert hal HW4
  generalize hWW : (((w.alloc (.cells (mC ka na sa (.slice a1 la1 cap1)).toArray 79)).alloc (.cells (mC kb nb sb (.slice a2 lb1 cap2)).toArray 79)).alloc (.cells #[.int .i64 0, .int .i64 0, .string { data := #[] }, .slice none 0 0] 79)).alloc (.cells #[.int .i64 ka, .int .i64 (wr (na + nb)), .string (str (sa ++ sb)), .slice none 0 0] 79) = W4
  intro hal HW4
  clear hWW
  obtain ⟨hr0, hr1, hr2, hr3, hsz⟩ := hal
  have c03 := (cells4 (show W4.heap[w.heap.size]? = some (.cells #[.int .i64 ka, .int .i64 na, .string (str sa), .slice a1 la1 cap1] 79) from hr0)).2.2.2.1
  have q4 := cells4 hr3
  have c33 := q4.2.2.2.1
  have HRW := hide (And.intro hr1 (And.intro hr2 hr3))
  have hpa30 := hla.2
  have hpb30 := hlb.2
  clear hr0 hr1 hr2 hr3 q4
  have HPA := hide hlpa
  have HPB := hide hlpb
  clear hlpa hlpb
  go_upto_region 7 with (at_builtin; refine wpList_append_kids rfl _ _ rfl W4.heap.size (.slice none 0 0) 0 [] rfl (World.ownsRow_nil W4 _ _ _) (Nat.le_refl _) (.slice a1 la1 cap1) rfl (HR1.out.below HW4.out) HZ1.out (by rw [HPA.out]; omega) ?_; intro x1 y1 w5 ow5 gr5 at5 nz5; have hb5 : Below W4.heap.size W4 w5 := grown_below gr5 (Nat.le_refl _) (fun k hk => by cases hk); have s3 := cells4 ((hb5.block _ (lt_of_heap HRW.out.2.2)).trans HRW.out.2.2); have c5 := s3.2.2.2.1; have z5 := s3.2.2.2.2.1; have HS5 := hide s3; have HO5 := hide ow5; have HA5 := hide at5; have HN5 := hide nz5; clear ow5 gr5 at5 nz5 s3)
  have e0 : 0 + pa.length = pa.length := Nat.zero_add _
  rw [e0] at HO5 HA5 HN5
  have hW6 : Below w.heap.size w (w5.setCell ⟨w.heap.size + 1 + 1 + 1, 3, none⟩ (.slice x1 pa.length y1)) := (below_next HW4.out hb5).setCell (p := ⟨w.heap.size + 1 + 1 + 1, 3, none⟩) (by show w.heap.size ≤ w.heap.size + 1 + 1 + 1; omega) _
  have ho6 : (w5.setCell ⟨w.heap.size + 1 + 1 + 1, 3, none⟩ (.slice x1 pa.length y1)).ownsRow W4.heap.size 79 4 (.slice x1 pa.length y1) pa.length ([] ++ css1.flatten) := ownsRow_setCell_below HO5.out (by show w.heap.size + 1 + 1 + 1 < W4.heap.size; omega) _
  have hr13 : (w5.setCell ⟨w.heap.size + 1 + 1 + 1, 3, none⟩ (.slice x1 pa.length y1)).heap[w.heap.size + 1]? = some (.cells #[.int .i64 kb, .int .i64 nb, .string (str sb), .slice a2 lb1 cap2] 79) := (Below.heap_setCell w5 _ _ _ (by show w.heap.size + 1 ≠ w.heap.size + 1 + 1 + 1; omega)).trans ((hb5.block _ (lt_of_heap HRW.out.1)).trans HRW.out.1)
  have hr23 : (w5.setCell ⟨w.heap.size + 1 + 1 + 1, 3, none⟩ (.slice x1 pa.length y1)).heap[w.heap.size + 1 + 1]? = some (.cells #[.int .i64 0, .int .i64 0, .string { data := #[] }, .slice none 0 0] 79) := (Below.heap_setCell w5 _ _ _ (by show w.heap.size + 1 + 1 ≠ w.heap.size + 1 + 1 + 1; omega)).trans ((hb5.block _ (lt_of_heap HRW.out.2.1)).trans HRW.out.2.1)
  have hr33 := HS5.out.2.2.2.2.2 (.slice x1 pa.length y1)
  have hs6 : W4.heap.size ≤ (w5.setCell ⟨w.heap.size + 1 + 1 + 1, 3, none⟩ (.slice x1 pa.length y1)).heap.size := by have := hb5.size; simpa using this
  generalize hW6e : w5.setCell ⟨w.heap.size + 1 + 1 + 1, 3, none⟩ (.slice x1 pa.length y1) = W6 at *
  have c13 := (cells4 hr13).2.2.2.1
  have c33' := (cells4 hr33).2.2.2.1
  have HW6 := hide hW6
  have HO6 := hide ho6
  have HR6 := hide (And.intro hr23 hr33)
  have HS6 := hide hs6
  clear hW6e hW6 ho6 hr13 hr23 hr33 hs6 c5 z5 c33 c03 HS5
  go_upto_region 8 with (at_builtin; refine wpList_append_kids rfl _ _ rfl W4.heap.size (.slice x1 pa.length y1) pa.length ([] ++ css1.flatten) rfl HO6.out HS6.out (.slice a2 lb1 cap2) rfl (HR2.out.below HW6.out) HZ2.out (by rw [HPA.out, HPB.out]; omega) ?_; intro x2 y2 w7 ow7 gr7 at7 nz7; have hb7 : Below W4.heap.size W6 w7 := grown_below gr7 HS6.out (fun k hk => by { rcases HA5.out with e | e <;> rw [e] at hk <;> cases hk; exact Nat.le_refl _ }); have s3 := cells4 ((hb7.block _ (show w.heap.size + 1 + 1 + 1 < W4.heap.size by omega)).trans HR6.out.2); have c7 := s3.2.2.2.1; have z7 := s3.2.2.2.2.1; have HS7 := hide s3; have HO7 := hide ow7; have HA7 := hide at7; have HN7 := hide nz7; clear ow7 gr7 at7 nz7 s3)
  have hsz7 : w.heap.size ≤ W4.heap.size := by omega
  have hW8 : Below w.heap.size w (w7.setCell ⟨w.heap.size + 1 + 1 + 1, 3, none⟩ (.slice x2 (pa.length + pb.length) y2)) := (HW6.out.trans (hb7.mono hsz7)).setCell (p := ⟨w.heap.size + 1 + 1 + 1, 3, none⟩) (by show w.heap.size ≤ w.heap.size + 1 + 1 + 1; omega) _
  have ho8 : (w7.setCell ⟨w.heap.size + 1 + 1 + 1, 3, none⟩ (.slice x2 (pa.length + pb.length) y2)).ownsRow W4.heap.size 79 4 (.slice x2 (pa.length + pb.length) y2) (pa.length + pb.length) ([] ++ css1.flatten ++ css2.flatten) := ownsRow_setCell_below HO7.out (by show w.heap.size + 1 + 1 + 1 < W4.heap.size; omega) _
  have hr28 : (w7.setCell ⟨w.heap.size + 1 + 1 + 1, 3, none⟩ (.slice x2 (pa.length + pb.length) y2)).heap[w.heap.size + 1 + 1]? = some (.cells #[.int .i64 0, .int .i64 0, .string { data := #[] }, .slice none 0 0] 79) := (Below.heap_setCell w7 _ _ _ (by show w.heap.size + 1 + 1 ≠ w.heap.size + 1 + 1 + 1; omega)).trans ((hb7.block _ (show w.heap.size + 1 + 1 < W4.heap.size by omega)).trans HR6.out.1)
  have hr38 := HS7.out.2.2.2.2.2 (.slice x2 (pa.length + pb.length) y2)
  generalize hW8e : w7.setCell ⟨w.heap.size + 1 + 1 + 1, 3, none⟩ (.slice x2 (pa.length + pb.length) y2) = W8 at *
  have HMK : Hid (∀ W', Below w.heap.size w W' → W'.ownsRow W4.heap.size 79 4 (.slice x2 (pa.length + pb.length) y2) (pa.length + pb.length) ([] ++ css1.flatten ++ css2.flatten) → MV W' g (sumV a b) (mC ka (wr (na + nb)) (sa ++ sb) (.slice x2 (pa.length + pb.length) y2))) := fun W' hW' ho' => by
    obtain ⟨f1, f2, f3, f4, f5⟩ := HF.out
    have hrow : MRow W' g (.slice x2 (pa.length + pb.length) y2) (css1 ++ css2) (pa ++ pb) := MRow.join (HR1.out.below hW') (HR2.out.below hW') (by simpa using ownsRow_zero ho')
    have := MV.mk4 (w := W') (g := g) (v := sumV a b) (k := .slice x2 (pa.length + pb.length) y2) (css := css1 ++ css2) f5 (by rw [f4]; exact hrow) (fun e => ?_) (fun x hx => ?_)
    · rw [f1, f2, f3] at this
      exact this
    · rw [f4] at e
      obtain ⟨ea, eb⟩ := List.append_eq_nil_iff.1 e
      rw [HN7.out eb, HN5.out ea]
    · intro hgx
      have h1 := HG.out x hgx
      have h2 : W4.heap.size ≤ x := by
        rcases HA7.out with e | e
        · rw [hx] at e
          rcases HA5.out with e' | e'
          · rw [e'] at e; cases e
          · rw [e'] at e; cases e; exact Nat.le_refl _
        · rw [hx] at e; cases e; exact HS6.out
      omega
  have hmv := HMK.out W8 hW8 ho8
  have htx := hide (mtext_calls hmv HF.out.2.2.2.2 (Nat.le_trans HST.out (by omega)) W8 (Below.refl _ _))
  have q8 := cells4 hr38
  have d0 := q8.1
  have d1 := q8.2.1
  have d2 := q8.2.2.1
  have d3 := q8.2.2.2.1
  have HR8 := hide (And.intro hr28 hr38)
  have HO8 := hide ho8
  have HW8 := hide hW8
  clear q8 hr28 hr38 hmv hW8 ho8 hW8e c7 z7 HS7 c13 c33'
  have hrr := HR.out
  generalize hTX : text (sumV a b) = tx at *
  rcases hrr with ⟨hbig, hrv⟩ | ⟨hbig, hrv⟩
  · have hdb : decide ((tx.length : Int) > 30) = true := decide_eq_true (by omega)
    have HRV := hide hrv
    clear hrv hTX HR
    go_wp2_with (first | (go_at_call 68; refine htx.out.mono ?_; rintro e w9 ⟨rfl, hb9⟩; have F2 := hide ((hb9.block _ (lt_of_heap HR8.out.1)).trans HR8.out.1)) | (refine wpList_store_row rfl 79 _ _ rfl (w.heap.size + 1 + 1) _ rfl rfl 79 _ F2.out info79a rfl (all4 _ _ _ _ _ _) ?_))
    refine bodyPost_ret (results_row_tmp rfl _ _ (w.heap.size + 1 + 1) 79 #[.int .i64 0, .int .i64 0, .string { data := #[] }, .slice none 0 0] (0, 0) _ rfl (setRow_heap _ _ _ _ _ _ F2.out) Try.underlying79 rfl info79a) rfl ?_
    rw [HRV.out]
    exact ⟨0, 0, [], none, 0, 0, rfl, below_setRow (below_next HW8.out hb9) (by omega) _, fun e => by cases e⟩
  · have hdb : decide ((tx.length : Int) > 30) = false := decide_eq_false (by omega)
    have HRV := hide hrv
    clear hrv hTX HR
    go_wp2_with (first | (go_at_call 68; refine htx.out.mono ?_; rintro e w9 ⟨rfl, hb9⟩; have F2 := hide ((hb9.block _ (lt_of_heap HR8.out.1)).trans HR8.out.1); have F3 := hide ((hb9.block _ (lt_of_heap HR8.out.2)).trans HR8.out.2)) | (refine wpList_load_row rfl 79 _ rfl (w.heap.size + 1 + 1 + 1) rfl 79 _ (0, 0) _ F3.out Try.underlying79 rfl info79a ?_) | (refine wpList_store_row rfl 79 _ _ rfl (w.heap.size + 1 + 1) _ rfl rfl 79 _ F2.out info79a rfl (all4 _ _ _ _ _ _) ?_))
    refine bodyPost_ret (results_row_tmp rfl _ _ (w.heap.size + 1 + 1) 79 #[.int .i64 ka, .int .i64 (wr (na + nb)), .string (str (sa ++ sb)), .slice x2 (pa.length + pb.length) y2] (0, 0) _ rfl (setRow_heap _ _ _ _ _ _ F2.out) Try.underlying79 rfl info79a) rfl ?_
    rw [HRV.out]
    refine ⟨ka, wr (na + nb), sa ++ sb, _, _, _, rfl, below_setRow (below_next HW8.out hb9) (by omega) _, fun _ => ?_⟩
    exact HMK.out _ (below_setRow (below_next HW8.out hb9) (by omega) _) (ownsRow_setRow (ownsRow_below HO8.out hb9) (by omega) _)
theorem mplus_calls (ha : MV w g a ca) (hb : MV w g b cb) (wa : Wf a) (wb : Wf b) (hgl : ∀ x, g x → x < w.heap.size) (la : (text a).length ≤ 30) (lb : (text b).length ≤ 30) : Calls Try.prog 82 #[.agg ca.toArray, .agg cb.toArray] w (MPlusOut w g (plusF a b)) := by
  by_cases hk : kind a = 4
  · have : plusF a b = (5, .nil) := by unfold plusF; rw [if_pos hk]
    rw [this]; exact mplus_pair ha hb wa wb hk
  · by_cases hkb : kind b ≠ kind a
    · have : plusF a b = (6, .nil) := by unfold plusF; rw [if_neg hk, if_pos hkb]
      rw [this]; exact mplus_mix ha hb wa wb hk hkb
    · have hP : plusF a b = if 30 < (text (sumV a b)).length then (7, .nil) else (0, sumV a b) := by unfold plusF; rw [if_neg hk, if_neg hkb]
      refine mplus_same ha hb wa wb hgl hk (by omega) la lb _ ?_
      by_cases h30 : 30 < (text (sumV a b)).length
      · exact .inl ⟨h30, by rw [hP, if_pos h30]⟩
      · exact .inr ⟨h30, by rw [hP, if_neg h30]⟩
end
end Go.Proofs.Qxb6500606a
