/-
  The model valsm: its values in memory; Text. (Seat 606 alone: type 79 is Val, 61 its slice, 63 the model's stack.)
-/
import Derived.Test.Qxb6500606aKPlain
import Derived.Test.Qxb6500606aKit
import Derived.Deep.Slices
namespace Go.Proofs.Qxb6500606a
open Go.ChangeShapes Go.WideShapes Go.ChangeAt Go.RowKit
attribute [local go_sem] str_size str_app str_app1 str_1app str_toList str_get
set_option linter.unusedVariables false

/-- A Val's four cells. -/
abbrev mC (t n : Int) (s : List UInt8) (k : Value) : List Value := [.int .i64 t, .int .i64 n, .string (str s), k]
/-- The cells cs stand for v; no row of it is g; so many kids deep at most. -/
def MVf (w : World) (g : Nat → Prop) : Nat → V → List Value → Prop
  | 0, _, _ => False
  | f + 1, v, cs => (∃ n : Int, I64 n ∧ v = vint n ∧ cs = mC 1 n [] (.slice none 0 0)) ∨ (∃ s : List UInt8, v = vstr s ∧ cs = mC 2 0 s (.slice none 0 0)) ∨
      ∃ (k : Value) (css : List (List Value)), canIter v = true ∧ w.ownsRow 0 79 4 k (parts v).length css.flatten ∧ (∀ b, k.ownBlock = some b → ¬ g b) ∧ css.length = (parts v).length ∧ (∀ cs ∈ css, cs.length = 4) ∧ (parts v = [] → k = .slice none 0 0) ∧
        (∀ (i : Nat) (e : V) (cs : List Value), (parts v)[i]? = some e → css[i]? = some cs → MVf w g f e cs) ∧ cs = mC (kind v) 0 [] k
/-- The cells cs stand for v; no row of it is g. -/
def MV (w : World) (g : Nat → Prop) (v : V) (cs : List Value) : Prop := ∃ f, MVf w g f v cs
theorem MVf_mono {w : World} {g : Nat → Prop} : ∀ (f f' : Nat) (v : V) (cs : List Value), f ≤ f' → MVf w g f v cs → MVf w g f' v cs := by
  intro f
  induction f with
  | zero => intro f' v cs _ h; exact h.elim
  | succ f ih =>
    intro f' v cs hf h
    obtain ⟨d, rfl⟩ : ∃ d, f' = d + 1 := ⟨f' - 1, by omega⟩
    rcases h with h | h | ⟨k, css, h1, h2, h3, h4, h5, h6, h7, h8⟩
    · exact .inl h
    · exact .inr (.inl h)
    · exact .inr (.inr ⟨k, css, h1, h2, h3, h4, h5, h6, fun i e cs he hcs => ih d e cs (by omega) (h7 i e cs he hcs), h8⟩)
theorem MV.int {w : World} {g : Nat → Prop} (n : Int) (hn : I64 n) : MV w g (vint n) (mC 1 n [] (.slice none 0 0)) := ⟨1, .inl ⟨n, hn, rfl, rfl⟩⟩
theorem MV.str {w : World} {g : Nat → Prop} (s : List UInt8) : MV w g (vstr s) (mC 2 0 s (.slice none 0 0)) := ⟨1, .inr (.inl ⟨s, rfl, rfl⟩)⟩
theorem MV.kids {w : World} {g : Nat → Prop} (v : V) (k : Value) (css : List (List Value)) (hc : canIter v = true) (hrow : w.ownsRow 0 79 4 k (parts v).length css.flatten) (hg : ∀ b, k.ownBlock = some b → ¬ g b) (hlen : css.length = (parts v).length) (h4 : ∀ cs ∈ css, cs.length = 4) (hz : parts v = [] → k = .slice none 0 0)
      (hk : ∀ (i : Nat) (e : V) (cs : List Value), (parts v)[i]? = some e → css[i]? = some cs → MV w g e cs) : MV w g v (mC (kind v) 0 [] k) := by
  obtain ⟨F, hF⟩ := Go.Deep.fuel_lt (n := (parts v).length) (q := fun i f => ∀ (e : V) (cs : List Value), (parts v)[i]? = some e → css[i]? = some cs → MVf w g f e cs) (fun i a b hab h e cs he hcs => MVf_mono a b e cs hab (h e cs he hcs)) (fun i hi => by
    have hi2 : i < css.length := by rw [hlen]; exact hi
    obtain ⟨f, hf⟩ := hk i _ _ (List.getElem?_eq_getElem hi) (List.getElem?_eq_getElem hi2)
    refine ⟨f, fun e cs he hcs => ?_⟩
    rw [List.getElem?_eq_getElem hi] at he
    rw [List.getElem?_eq_getElem hi2] at hcs
    cases he
    cases hcs
    exact hf)
  exact ⟨F + 1, .inr (.inr ⟨k, css, hc, hrow, hg, hlen, h4, hz, fun i e cs he hcs => hF i (List.getElem?_eq_some_iff.1 he).1 e cs he hcs, rfl⟩)⟩
theorem MV.ind {w : World} {g : Nat → Prop} {Q : (v : V) → (cs : List Value) → MV w g v cs → Prop} (int : ∀ (n : Int) (hn : I64 n), Q (vint n) (mC 1 n [] (.slice none 0 0)) (MV.int n hn)) (str : ∀ s : List UInt8, Q (vstr s) (mC 2 0 s (.slice none 0 0)) (MV.str s))
    (kids : ∀ (v : V) (k : Value) (css : List (List Value)) (hc : canIter v = true) (hrow : w.ownsRow 0 79 4 k (parts v).length css.flatten) (hg : ∀ b, k.ownBlock = some b → ¬ g b) (hlen : css.length = (parts v).length) (h4 : ∀ cs ∈ css, cs.length = 4) (hz : parts v = [] → k = .slice none 0 0)
      (hk : ∀ (i : Nat) (e : V) (cs : List Value), (parts v)[i]? = some e → css[i]? = some cs → MV w g e cs) (ih : ∀ (i : Nat) (e : V) (cs : List Value) (he : (parts v)[i]? = some e) (hcs : css[i]? = some cs), Q e cs (hk i e cs he hcs)), Q v (mC (kind v) 0 [] k) (MV.kids v k css hc hrow hg hlen h4 hz hk)) {v : V} {cs : List Value} (h : MV w g v cs) : Q v cs h := by
  have key : ∀ (f : Nat) (v : V) (cs : List Value) (h : MVf w g f v cs), Q v cs ⟨f, h⟩ := by
    intro f
    induction f with
    | zero => intro v cs h; exact h.elim
    | succ f ih =>
      intro v cs h
      rcases h with ⟨n, hn, rfl, rfl⟩ | ⟨s, rfl, rfl⟩ | ⟨k, css, h1, h2, h3, h4, h5, h6, h7, rfl⟩
      · exact int n hn
      · exact str s
      · exact kids v k css h1 h2 h3 h4 h5 h6 (fun i e cs he hcs => ⟨f, h7 i e cs he hcs⟩) (fun i e cs he hcs => ih e cs (h7 i e cs he hcs))
  obtain ⟨f, hf⟩ := h
  exact key f v cs hf
theorem ownsRow_slice4 {w : World} {k : Value} {n : Nat} {xs : List Value} (h : w.ownsRow 0 79 4 k n xs) : ∃ a cap, k = .slice a n cap ∧ n ≤ 9223372036854775807 ∧ (∀ b, k.ownBlock = some b → a = some ⟨b, 0, none⟩ ∧ ∃ cur, w.heap[b]? = some (.cells cur 79) ∧ cur.size = cap * 4 ∧ cur.toList.take (n * 4) = xs ∧ n ≤ cap) ∧ (0 < n → ∃ b, k.ownBlock = some b) := by
  rcases h.2 with ⟨rfl, rfl⟩ | ⟨g, cap, cur, rfl, _, hh, h1, h2, h3, h4⟩
  · exact ⟨none, 0, rfl, by omega, (fun b hb => by cases hb), fun h => by omega⟩
  · refine ⟨_, cap, rfl, by unfold maxLen at h2; omega, fun b hb => ?_, fun _ => ⟨g, rfl⟩⟩
    cases hb
    exact ⟨rfl, cur, hh, h3, h4, h1⟩
theorem MV.cells {w : World} {g : Nat → Prop} {v : V} {cs : List Value} (h : MV w g v cs) : ∃ n s a m cap, cs = mC (kind v) n s (.slice a m cap) := by
  induction h using MV.ind with
  | int n hn => exact ⟨_, _, _, _, _, rfl⟩
  | str s => exact ⟨_, _, _, _, _, rfl⟩
  | kids v k css hc hrow hg hlen h4 hz hk ih =>
    obtain ⟨a, cap, rfl, _⟩ := ownsRow_slice4 hrow
    exact ⟨_, _, _, _, _, rfl⟩
theorem MV.len {w : World} {g : Nat → Prop} {v : V} {cs : List Value} (h : MV w g v cs) : cs.length = 4 := by
  obtain ⟨n, s, a, m, cap, rfl⟩ := h.cells
  rfl
theorem MV.one {w : World} {g : Nat → Prop} {v : V} {cs : List Value} (h : MV w g v cs) : ∀ u ∈ cs, u.oneCell' = true := by
  obtain ⟨n, s, a, m, cap, rfl⟩ := h.cells
  intro u hu
  simp at hu
  rcases hu with rfl | rfl | rfl | rfl <;> rfl
theorem MV.keep {w w' : World} {g g' : Nat → Prop} (hk : ∀ b c, w.heap[b]? = some (.cells c 79) → ¬ g b → w'.heap[b]? = some (.cells c 79) ∧ ¬ g' b) {v : V} {cs : List Value} (h : MV w g v cs) : MV w' g' v cs := by
  induction h using MV.ind with
  | int n hn => exact .int n hn
  | str s => exact .str s
  | kids v k css hc hrow hg hlen h4 hz hks ih =>
    refine .kids v k css hc ⟨hrow.1, ?_⟩ (fun b hb => ?_) hlen h4 hz ih
    · rcases hrow.2 with h | ⟨b, cap, cur, h1, h2, h3, h5⟩
      · exact .inl h
      · exact .inr ⟨b, cap, cur, h1, h2, (hk b cur h3 (hg b (by rw [h1]; rfl))).1, h5⟩
    · obtain ⟨a, cap, rfl, _, h1, _⟩ := ownsRow_slice4 hrow
      obtain ⟨_, cur, h2, _⟩ := h1 b hb
      exact (hk b cur h2 (hg b hb)).2
theorem MV.carry {w w' : World} {g : Nat → Prop} {v : V} {cs : List Value} (h : MV w g v cs) (hb : Below w.heap.size w w') : MV w' g v cs :=
  h.keep fun b c e hne => ⟨(hb.block b (lt_of_heap e)).trans e, hne⟩
/-- What a value's cells are, kind by kind. -/
theorem MV.ofInt {w : World} {g : Nat → Prop} {v : V} {cs : List Value} (h : MV w g v cs) (hk : kind v = 1) : ∃ n, v = vint n ∧ cs = mC 1 n [] (.slice none 0 0) ∧ I64 n := by
  induction h using MV.ind with
  | int n hn => exact ⟨n, rfl, rfl, hn⟩
  | str s => cases hk
  | kids v k css hc hrow hg hlen h4 hz hks ih => simp [canIter, hk] at hc
theorem MV.ofStr {w : World} {g : Nat → Prop} {v : V} {cs : List Value} (h : MV w g v cs) (hk : kind v = 2) : ∃ s, v = vstr s ∧ cs = mC 2 0 s (.slice none 0 0) := by
  induction h using MV.ind with
  | int n hn => cases hk
  | str s => exact ⟨s, rfl, rfl⟩
  | kids v k css hc hrow hg hlen h4 hz hks ih => simp [canIter, hk] at hc
/-- A row of values. -/
structure MRow (w : World) (g : Nat → Prop) (k : Value) (css : List (List Value)) (vs : List V) : Prop where
  row : w.ownsRow 0 79 4 k vs.length css.flatten
  len : css.length = vs.length
  four : ∀ cs ∈ css, cs.length = 4
  rep : ∀ (i : Nat) (e : V) (cs : List Value), vs[i]? = some e → css[i]? = some cs → MV w g e cs
theorem MV.ofKids {w : World} {g : Nat → Prop} {v : V} {cs : List Value} (h : MV w g v cs) (hc : canIter v = true) : ∃ k css, cs = mC (kind v) 0 [] k ∧ MRow w g k css (parts v) ∧ (∀ b, k.ownBlock = some b → ¬ g b) ∧ (parts v = [] → k = .slice none 0 0) := by
  induction h using MV.ind with
  | int n hn => cases hc
  | str s => cases hc
  | kids v k css _ hrow hg hlen h4 hz hks ih => exact ⟨k, css, rfl, ⟨hrow, hlen, h4, hks⟩, hg, hz⟩
/-- The kids. -/
def kidsOf (v : V) : List V := if canIter v then parts v else []
theorem MV.open4 {w : World} {g : Nat → Prop} {v : V} {cs : List Value} (h : MV w g v cs) (hw : Wf v) : ∃ k css, cs = mC (kind v) (num v) (bytes v) k ∧ MRow w g k css (kidsOf v) ∧ (kidsOf v = [] → k = .slice none 0 0) ∧ ∀ b, k.ownBlock = some b → ¬ g b := by
  have hrow0 : ∀ v : V, canIter v = false → MRow w g (.slice none 0 0) [] (kidsOf v) := fun v hc => by
    have e : kidsOf v = [] := by unfold kidsOf; rw [hc]; rfl
    rw [e]
    exact ⟨World.ownsRow_nil w _ _ _, rfl, (fun c hc => by cases hc), fun i e cs he _ => by simp at he⟩
  induction h using MV.ind with
  | int n hn => exact ⟨_, [], rfl, hrow0 _ rfl, fun _ => rfl, fun b hb => by cases hb⟩
  | str s => exact ⟨_, [], rfl, hrow0 _ rfl, fun _ => rfl, fun b hb => by cases hb⟩
  | kids v k css hc hrow hg hlen h4 hz hks ih =>
    have e : kidsOf v = parts v := by unfold kidsOf; rw [hc]; rfl
    rw [e]
    refine ⟨k, css, ?_, ⟨hrow, hlen, h4, hks⟩, hz, hg⟩
    rcases wf_cases hw with rfl | ⟨n, rfl, hn⟩ | ⟨s, rfl⟩ | ⟨l, r, rfl, hL, h1, h2⟩ | ⟨l, r, rfl, h1, h2⟩
    · rfl
    · cases hc
    · cases hc
    · rfl
    · rfl
theorem MV.mk4 {w : World} {g : Nat → Prop} {v : V} {k : Value} {css : List (List Value)} (hw : Wf v) (hr : MRow w g k css (kidsOf v)) (hz : kidsOf v = [] → k = .slice none 0 0) (hg : ∀ b, k.ownBlock = some b → ¬ g b) : MV w g v (mC (kind v) (num v) (bytes v) k) := by
  rcases wf_cases hw with rfl | ⟨n, rfl, hn⟩ | ⟨s, rfl⟩ | ⟨l, r, rfl, hL, h1, h2⟩ | ⟨l, r, rfl, h1, h2⟩
  · exact .kids _ k css rfl hr.row hg hr.len hr.four hz hr.rep
  · rw [hz rfl]; exact .int n hn
  · rw [hz rfl]; exact .str s
  · exact .kids _ k css rfl hr.row hg hr.len hr.four hz hr.rep
  · exact .kids _ k css rfl hr.row hg hr.len hr.four hz hr.rep
theorem flat_at4 : ∀ (css : List (List Value)) (i : Nat) (cs : List Value) (j : Nat) (v : Value), (∀ c ∈ css, c.length = 4) → css[i]? = some cs → cs[j]? = some v → css.flatten[i * 4 + j]? = some v
  | [], i, cs, j, v, _, h, _ => by simp at h
  | c :: r, 0, cs, j, v, h4, h, hv => by
    simp at h; subst h
    have hj : j < c.length := (List.getElem?_eq_some_iff.1 hv).1
    rw [List.flatten_cons, Nat.zero_mul, Nat.zero_add, List.getElem?_append_left hj]; exact hv
  | c :: r, i + 1, cs, j, v, h4, h, hv => by
    have := flat_at4 r i cs j v (fun x hx => h4 x (by simp [hx])) (by simpa using h) hv
    have hl : c.length = 4 := h4 c (by simp)
    rw [List.flatten_cons, List.getElem?_append_right (by omega), hl]
    have e : (i + 1) * 4 + j - 4 = i * 4 + j := by omega
    rw [e]; exact this
theorem flat_len4 : ∀ (css : List (List Value)), (∀ c ∈ css, c.length = 4) → css.flatten.length = css.length * 4
  | [], _ => rfl
  | c :: r, h4 => by
    have := flat_len4 r (fun x hx => h4 x (by simp [hx]))
    have hl : c.length = 4 := h4 c (by simp)
    simp only [List.flatten_cons, List.length_append, List.length_cons, this, hl]; omega
/-- The cells of one of a row. -/
theorem MRow.at {w : World} {g : Nat → Prop} {k : Value} {css : List (List Value)} {vs : List V} (h : MRow w g k css vs) {i : Nat} {v : V} (hv : vs[i]? = some v) : ∃ b cap cs, k = .slice (some ⟨b, 0, none⟩) vs.length cap ∧ k.ownBlock = some b ∧ css[i]? = some cs ∧ w.rangeAt b (i * 4) cs ∧ MV w g v cs ∧ b < w.heap.size := by
  have hi : i < vs.length := (List.getElem?_eq_some_iff.1 hv).1
  obtain ⟨a, cap, rfl, _, h1, h2⟩ := ownsRow_slice4 h.row
  obtain ⟨b, hb⟩ := h2 (by omega)
  obtain ⟨rfl, cur, h3, h4, h5, h6⟩ := h1 b hb
  have hi2 : i < css.length := by rw [h.len]; exact hi
  refine ⟨b, cap, css[i], rfl, hb, List.getElem?_eq_getElem hi2, fun j u hu => ?_, h.rep i v _ hv (List.getElem?_eq_getElem hi2), lt_of_heap h3⟩
  have e := flat_at4 css i _ j u h.four (List.getElem?_eq_getElem hi2) hu
  rw [← h5] at e
  have hj : j < 4 := by have := (List.getElem?_eq_some_iff.1 hu).1; rw [h.four _ (List.getElem_mem _)] at this; exact this
  rw [List.getElem?_take_of_lt (by omega)] at e
  simp only [World.cell?, h3]
  simpa using e
theorem info79 (c : List Value) (h : c.length = 4) : (Try.prog.info? 79).map (·.size) = some c.length := by rw [h]; kernel_rfl
theorem text_kids {v : V} (h : Wf v) (hc : canIter v = true) : (kind v = 3 ∧ text v = 91 :: (innerL (parts v) ++ [93])) ∨ (kind v = 4 ∧ text v = 60 :: (innerL (parts v) ++ [62])) := by
  rcases wf_cases h with rfl | ⟨n, rfl, hn⟩ | ⟨s, rfl⟩ | ⟨l, r, rfl, hL, h1, h2⟩ | ⟨l, r, rfl, h1, h2⟩
  · exact .inl ⟨rfl, rfl⟩
  · cases hc
  · cases hc
  · refine .inl ⟨rfl, ?_⟩
    rw [text_list _ rfl, (inner_elems h rfl).1]; rfl
  · refine .inr ⟨rfl, ?_⟩
    rw [text_pair]
    show _ = 60 :: ((text l ++ 32 :: (text r ++ [])) ++ [62])
    simp
theorem innerL_snoc (l : List V) (e : V) : innerL (l ++ [e]) = if l = [] then text e else innerL l ++ 32 :: text e := by
  cases l with
  | nil => simp [innerL, seps]
  | cons a r =>
    rw [if_neg (by simp)]
    show text a ++ seps (r ++ [e]) = (text a ++ seps r) ++ 32 :: text e
    rw [seps_app]; simp [seps]
theorem innerL_take_le : ∀ (l : List V) (j : Nat), (innerL (l.take j)).length ≤ (innerL l).length := by
  intro l j
  have hs : ∀ (l : List V) (j : Nat), (seps (l.take j)).length ≤ (seps l).length := by
    intro l
    induction l with
    | nil => intro j; simp
    | cons a r ih =>
      intro j
      cases j with
      | zero => simp [seps]
      | succ j => have := ih j; simp [seps]; omega
  cases l with
  | nil => simp
  | cons a r =>
    cases j with
    | zero => simp [innerL]
    | succ j => have := hs r j; simp [innerL]; omega
end Go.Proofs.Qxb6500606a
