/-
  Keeps: End.
-/
import Derived.Test.Qxb6500606aKKind
namespace Go.Proofs.Qxb6500606a
open Go.ChangeShapes Go.WideShapes Go.ChangeAt Go.RowKit
attribute [local go_sem] str_size str_app str_app1 str_1app str_toList str_get
set_option linter.unusedVariables false

def seps : List V → List UInt8
  | [] => []
  | e :: es => 32 :: (text e ++ seps es)
def innerL : List V → List UInt8
  | [] => []
  | e :: es => text e ++ seps es
theorem seps_cons (e : V) (es : List V) : seps (e :: es) = 32 :: innerL (e :: es) := rfl
theorem inner_elems {v : V} (h : Wf v) (hL : isL v = true) : inner v = innerL (elems v) ∧ sepInner v = seps (elems v) := by
  induction v with
  | nil => exact ⟨rfl, rfl⟩
  | node t o a l r ihl ihr =>
    rcases wf_cases h with e | ⟨n, e, hn⟩ | ⟨s, e⟩ | ⟨l1, r1, e, hL1, h1, h2⟩ | ⟨l1, r1, e, _⟩
    · cases e
    · cases e; cases hL
    · cases e; cases hL
    · cases e
      obtain ⟨e1, e2⟩ := ihr h2 hL1
      have : inner (vcons l r) = innerL (elems (vcons l r)) := by rw [inner_cons, e2, elems_cons]; rfl
      refine ⟨this, ?_⟩
      show 32 :: inner (vcons l r) = _
      rw [this, elems_cons, seps_cons]
    · cases e; cases hL
/-- The text of a list or a pair. -/
theorem text_parts {v : V} (h : Wf v) (hc : canIter v = true) : ∃ o c : UInt8, (o = 91 ∨ o = 60) ∧ (c = 93 ∨ c = 62) ∧ text v = o :: (innerL (parts v) ++ [c]) ∧ ∀ e ∈ parts v, Wf e ∧ size e < size v := by
  rcases wf_cases h with rfl | ⟨n, rfl, hn⟩ | ⟨s, rfl⟩ | ⟨l, r, rfl, hL, h1, h2⟩ | ⟨l, r, rfl, h1, h2⟩
  · exact ⟨91, 93, .inl rfl, .inl rfl, rfl, by intro e he; cases he⟩
  · cases hc
  · cases hc
  · refine ⟨91, 93, .inl rfl, .inl rfl, ?_, ?_⟩
    · rw [text_list _ rfl, (inner_elems h rfl).1]; rfl
    · have key : ∀ u : V, Wf u → isL u = true → ∀ e ∈ elems u, Wf e := by
        intro u
        induction u with
        | nil => intro _ _ e he; cases he
        | node t o a l' r' ihl ihr =>
          intro hu hLu e he
          rcases wf_cases hu with q | ⟨n, q, hn⟩ | ⟨s, q⟩ | ⟨l1, r1, q, hL1, k1, k2⟩ | ⟨l1, r1, q, _⟩
          · cases q
          · cases q; cases hLu
          · cases q; cases hLu
          · cases q
            rcases List.mem_cons.1 he with rfl | he
            · exact k1
            · exact ihr k2 hL1 e he
          · cases q; cases hLu
      exact fun e he => ⟨key _ h rfl e he, elem_size _ e he⟩
  · refine ⟨60, 62, .inr rfl, .inr rfl, ?_, ?_⟩
    · rw [text_pair]
      show _ = 60 :: ((text l ++ (32 :: (text r ++ []))) ++ [62])
      simp
    · intro e he
      rcases List.mem_cons.1 he with rfl | he
      · exact ⟨h1, by simp [size]; omega⟩
      · rcases List.mem_cons.1 he with rfl | he
        · exact ⟨h2, by simp [size]; omega⟩
        · cases he
/-- What may stand behind a value. -/
def Term (post : List UInt8) : Prop := ∀ c, post.head? = some c → c = 32 ∨ c = 93 ∨ c = 62
def EndOK (v : V) : Prop := ∀ (pre post : List UInt8) (w : World), Term post → (pre ++ (text v ++ post)).length ≤ 100000 →
  Calls Try.prog 84 #[.string (str (pre ++ (text v ++ post))), .int .i64 pre.length] w fun e w' => e = .returned (.int .i64 (pre.length + (text v).length : Nat)) ∧ w' = w

theorem get_at (pre : List UInt8) (c : UInt8) (r : List UInt8) (h : pre.length < (pre ++ c :: r).length) : (pre ++ c :: r)[pre.length] = c := by
  simp
set_option maxHeartbeats 1000000 in
theorem end_int (n : Int) (hn : I64 n) : EndOK (vint n) := by
  intro pre post w hp hl
  have hs := hide (stop_calls (pre ++ (text (vint n) ++ post)) pre.length (by simp) hl w)
  rw [show stopF (pre ++ (text (vint n) ++ post)) pre.length = pre.length + (text (vint n)).length from stopF_digs _ _ _ (itoa_dig n hn).1 (fun c hc => by rcases hp c hc with rfl | rfl | rfl <;> rfl)] at hs
  obtain ⟨c, r, h1, h2⟩ := itoa_cons n hn
  obtain ⟨h3, h4, _⟩ := dig_ne h2
  have hlt : pre.length < (pre ++ (text (vint n) ++ post)).length := by
    have : 0 < (text (vint n)).length := by show 0 < (itoa n).length; rw [h1]; simp
    simp; omega
  have hc : (pre ++ (text (vint n) ++ post))[pre.length] = c := by
    have : text (vint n) = c :: r := h1
    simp [this]
  have hc91 : ((c.toNat : Int) == 91) = false := by
    have : c.toNat ≠ 91 := fun e => h3 (UInt8.toNat_inj.1 e)
    simp; omega
  have hc60 : ((c.toNat : Int) == 60) = false := by
    have : c.toNat ≠ 60 := fun e => h4 (UInt8.toNat_inj.1 e)
    simp; omega
  have hlen : (pre ++ (text (vint n) ++ post)).length = pre.length + (text (vint n)).length + post.length := by simp; omega
  cases post with
  | nil =>
    have hd : decide (((pre.length + (text (vint n)).length : Nat) : Int) < (pre ++ (text (vint n) ++ [])).length) = false := decide_eq_false (by rw [hlen]; simp)
    generalize hT : pre ++ (text (vint n) ++ []) = t at *
    generalize hE : pre.length + (text (vint n)).length = en at *
    generalize hP : pre.length = pl at *
    clear hT hE hP
    go_enter Try.func84, Try.ntmps84
    go_wp2_with (go_at_call 67; refine hs.out.mono ?_; rintro e w' ⟨rfl, hw⟩; subst hw)
    go_ret
    exact ⟨rfl, rfl⟩
  | cons d q =>
    have hd : decide (((pre.length + (text (vint n)).length : Nat) : Int) < (pre ++ (text (vint n) ++ d :: q)).length) = true := decide_eq_true (by rw [hlen]; simp; omega)
    have hlt2 : pre.length + (text (vint n)).length < (pre ++ (text (vint n) ++ d :: q)).length := by rw [hlen]; simp
    have hdc : (pre ++ (text (vint n) ++ d :: q))[pre.length + (text (vint n)).length] = d := by simp
    have hd58 : ((d.toNat : Int) == 58) = false := by
      rcases hp d rfl with rfl | rfl | rfl <;> rfl
    generalize hT : pre ++ (text (vint n) ++ d :: q) = t at *
    generalize hE : pre.length + (text (vint n)).length = en at *
    generalize hP : pre.length = pl at *
    clear hT hE hP hlen
    go_enter Try.func84, Try.ntmps84
    go_wp2_with (go_at_call 67; refine hs.out.mono ?_; rintro e w' ⟨rfl, hw⟩; subst hw)
    go_ret
    exact ⟨rfl, rfl⟩
theorem str_extract (l : List UInt8) (a b : Nat) : (str l).extract a b = str ((l.drop a).take (b - a)) := by
  apply ByteArray.ext
  rw [ByteArray.data_extract]
  simp [str]
set_option maxHeartbeats 400000 in
theorem end_str (s : List UInt8) : EndOK (vstr s) := by
  intro pre post w hp hl
  rw [text_str] at *
  have hsl : s.length ≤ 100000 := by simp at hl; omega
  have hn := nat_i64 hsl
  have hs := stop_calls (pre ++ ((itoa s.length ++ 58 :: s) ++ post)) pre.length (by simp) hl w
  have hst : stopF (pre ++ ((itoa s.length ++ 58 :: s) ++ post)) pre.length = pre.length + (itoa s.length).length := by
    have := stopF_digs (itoa s.length) pre (58 :: (s ++ post)) (itoa_dig _ hn).1 (fun c hc => by simp at hc; subst hc; decide)
    rw [← this]; simp
  rw [hst] at hs
  have hs := hide hs
  clear hst
  obtain ⟨c, r, h1, h2⟩ := itoa_cons s.length hn
  obtain ⟨h3, h4, _⟩ := dig_ne h2
  have hlen : (pre ++ ((itoa s.length ++ 58 :: s) ++ post)).length = pre.length + (itoa s.length).length + 1 + s.length + post.length := by simp; omega
  have hlt : pre.length < (pre ++ ((itoa s.length ++ 58 :: s) ++ post)).length := by rw [hlen]; omega
  have hc : (pre ++ ((itoa s.length ++ 58 :: s) ++ post))[pre.length] = c := by simp [h1]
  have hc91 : ((c.toNat : Int) == 91) = false := by
    have : c.toNat ≠ 91 := fun e => h3 (UInt8.toNat_inj.1 e)
    simp; omega
  have hc60 : ((c.toNat : Int) == 60) = false := by
    have : c.toNat ≠ 60 := fun e => h4 (UInt8.toNat_inj.1 e)
    simp; omega
  have hd : decide (((pre.length + (itoa s.length).length : Nat) : Int) < (pre ++ ((itoa s.length ++ 58 :: s) ++ post)).length) = true := decide_eq_true (by rw [hlen]; omega)
  have hlt2 : pre.length + (itoa s.length).length < (pre ++ ((itoa s.length ++ 58 :: s) ++ post)).length := by rw [hlen]; omega
  have hdc : (pre ++ ((itoa s.length ++ 58 :: s) ++ post))[pre.length + (itoa s.length).length] = 58 := by simp
  have hex : (str (pre ++ ((itoa s.length ++ 58 :: s) ++ post))).extract pre.length (pre.length + (itoa s.length).length) = str (itoa s.length) := by
    rw [str_extract, List.drop_left, Nat.add_sub_cancel_left, List.append_assoc, List.take_left]
  have hle : pre.length ≤ pre.length + (itoa s.length).length := Nat.le_add_right _ _
  have hnum := hide (numOf_calls s.length hn w)
  have hb1 : pre.length ≤ 100000 := by simp at hl; omega
  have hb2 : pre.length + (itoa s.length).length ≤ 100000 := by simp at hl; omega
  have HT : Hid (pre.length + (itoa s.length ++ 58 :: s).length = pre.length + (itoa s.length).length + 1 + s.length) := by show _ = _; simp; omega
  generalize hT : pre ++ ((itoa s.length ++ 58 :: s) ++ post) = t at *
  generalize hE : pre.length + (itoa s.length).length = en at *
  generalize hP : pre.length = pl at *
  generalize hD : itoa (s.length : Int) = dd at *
  generalize hN : s.length = n at *
  clear hT hE hP hlen hD hN h1
  go_enter Try.func84, Try.ntmps84
  go_wp2_with (go_at_call 67; refine hs.out.mono ?_; rintro e w' ⟨rfl, hw⟩; subst hw)
  refine hnum.out.mono ?_
  rintro e w2 ⟨rfl, hw⟩
  subst hw
  go_wp2
  go_ret
  rw [HT.out]
  exact ⟨by simp <;> rfl, rfl⟩

theorem term_seps (es : List V) (c : UInt8) (hc : c = 93 ∨ c = 62) (post : List UInt8) : Term (seps es ++ c :: post) := by
  intro d hd
  cases es with
  | nil => simp [seps] at hd; subst hd; exact .inr hc
  | cons e es => simp [seps] at hd; subst hd; exact .inl rfl
set_option maxHeartbeats 1000000 in
theorem end_open {v : V} (h : Wf v) (hc : canIter v = true) (ih : ∀ e, Wf e → size e < size v → EndOK e) : EndOK v := by
  obtain ⟨o, c, ho, hcl, htx, hps⟩ := text_parts h hc
  intro pre post w hp hl
  rw [htx] at hl ⊢
  have hlt : pre.length < (pre ++ (o :: (innerL (parts v) ++ [c]) ++ post)).length := by simp
  have hgo : (pre ++ (o :: (innerL (parts v) ++ [c]) ++ post))[pre.length] = o := by simp
  have heq : pre ++ (o :: (innerL (parts v) ++ [c]) ++ post) = (pre ++ [o]) ++ (innerL (parts v) ++ c :: post) := by simp
  have hfin : pre.length + (o :: (innerL (parts v) ++ [c])).length = (pre ++ [o]).length + (innerL (parts v)).length + 1 := by simp; omega
  have htl : (pre ++ (o :: (innerL (parts v) ++ [c]) ++ post)).length = (pre ++ [o]).length + (innerL (parts v)).length + 1 + post.length := by rw [heq]; simp; omega
  generalize pre.length + (o :: (innerL (parts v) ++ [c])).length = fin at *
  have HFIN := hide hfin
  have HTL := hide htl
  have HPS : Hid (∀ e ∈ parts v, Wf e ∧ EndOK e) := fun e he => ⟨(hps e he).1, ih e (hps e he).1 (hps e he).2⟩
  have HEQ := hide heq
  have hpl : pre.length ≤ 100000 := by simp at hl; omega
  clear hfin htl heq hps htx ih
  generalize hT : pre ++ (o :: (innerL (parts v) ++ [c]) ++ post) = t at *
  have HT := hide hT
  clear hT
  have hcN : ((c.toNat : Int) != 93) = false ∨ ((c.toNat : Int) != 93) = true ∧ ((c.toNat : Int) != 62) = false := by
    rcases hcl with rfl | rfl
    · exact .inl rfl
    · exact .inr ⟨rfl, rfl⟩
  rcases ho with rfl | rfl
  · go_enter Try.func84, Try.ntmps84
    go_wp2_with fail
    go_loop [1] (fun x => ∃ (p X : List UInt8) (es : List V), x = .int .i64 p.length ∧ t = p ++ (X ++ c :: post) ∧ (X = innerL es ∨ X = seps es) ∧ (∀ e ∈ es, Wf e ∧ EndOK e) ∧ p.length + X.length = (pre ++ [91]).length + (innerL (parts v)).length) (fun x => t.length - (intOf x).toNat)
    case atStart => exact ⟨pre ++ [91], innerL (parts v), parts v, by simp, HEQ.out, .inl rfl, HPS.out, rfl⟩
    case round =>
      obtain ⟨p, X, es, rfl, hX, hXe, hes, hsum⟩ := hrel
      have hpl2 : p.length < t.length := by rw [hX]; simp; omega
      have hpb : p.length ≤ 100000 := by omega
      have hcase : X = [] ∨ (∃ e es', X = text e ++ seps es' ∧ es = e :: es') ∨ (∃ e es', X = 32 :: innerL (e :: es') ∧ es = e :: es') := by
        cases es with
        | nil => rcases hXe with rfl | rfl <;> exact .inl rfl
        | cons e es' =>
          rcases hXe with rfl | rfl
          · exact .inr (.inl ⟨e, es', rfl, rfl⟩)
          · exact .inr (.inr ⟨e, es', rfl, rfl⟩)
      clear hXe
      rcases hcase with rfl | ⟨e, es', rfl, rfl⟩ | ⟨e, es', rfl, rfl⟩
      · have hg : t[p.length] = c := by simp [hX]
        have HSUM : Hid ((fin : Int) = (p.length : Int) + 1) := by have := HFIN.out; show _ = _; simp at hsum this ⊢; omega
        clear hX hsum
        generalize p.length = pl at *
        rcases hcN with hcn | ⟨hcn, hcn2⟩
        · go_wp2
          go_ret
          exact ⟨by rw [HSUM.out] <;> rfl, rfl⟩
        · go_wp2
          go_ret
          exact ⟨by rw [HSUM.out] <;> rfl, rfl⟩
      · obtain ⟨hwe, hoke⟩ := hes e (by simp)
        have htl2 : (text e).length ≤ 100000 := by rw [hX] at hl; simp at hl; omega
        obtain ⟨ch, rr, htxe, n32, n93, n62⟩ := text_head hwe htl2
        have hXX : t = p ++ (text e ++ (seps es' ++ c :: post)) := by rw [hX]; simp
        have hg : t[p.length] = ch := by simp [hXX, htxe]
        have hcl' := hoke p (seps es' ++ c :: post) w (term_seps es' c hcl post) (by rw [← hXX]; exact hl)
        rw [← hXX] at hcl'
        have HC := hide hcl'
        have c93 : ((ch.toNat : Int) != 93) = true := by
          have : ch.toNat ≠ 93 := fun e => n93 (UInt8.toNat_inj.1 e)
          simp; omega
        have c62 : ((ch.toNat : Int) != 62) = true := by
          have : ch.toNat ≠ 62 := fun e => n62 (UInt8.toNat_inj.1 e)
          simp; omega
        have c32 : ((ch.toNat : Int) == 32) = false := by
          have : ch.toNat ≠ 32 := fun e => n32 (UInt8.toNat_inj.1 e)
          simp; omega
        have HR : Hid (∃ (p' X : List UInt8) (es : List V), p'.length = p.length + (text e).length ∧ t = p' ++ (X ++ c :: post) ∧ (X = innerL es ∨ X = seps es) ∧ (∀ e ∈ es, Wf e ∧ EndOK e) ∧ p'.length + X.length = (pre ++ [91]).length + (innerL (parts v)).length) :=
          ⟨p ++ text e, seps es', es', by simp, by rw [hXX]; simp, .inr rfl, fun u hu => hes u (by simp [hu]), by simp at hsum ⊢; omega⟩
        have hte : 0 < (text e).length := by rw [htxe]; simp
        have hin : p.length + (text e).length < t.length := by rw [hXX]; simp; omega
        clear hcl' hX hXX hes hsum htxe
        generalize hpe : p.length + (text e).length = pe at *
        generalize p.length = pl at *
        go_wp2_with (go_at_call 84; refine HC.out.mono ?_; rintro e w' ⟨rfl, hw⟩; subst hw)
        go_round
        case rel =>
          obtain ⟨p', X, es, h1, h2⟩ := HR.out
          exact ⟨p', X, es, by rw [h1], h2⟩
        case measure => simp [intOf]; omega
      · have hg : t[p.length] = 32 := by simp [hX]
        have HR : Hid (∃ (p' X : List UInt8) (es : List V), p'.length = p.length + 1 ∧ t = p' ++ (X ++ c :: post) ∧ (X = innerL es ∨ X = seps es) ∧ (∀ e ∈ es, Wf e ∧ EndOK e) ∧ p'.length + X.length = (pre ++ [91]).length + (innerL (parts v)).length) :=
          ⟨p ++ [32], innerL (e :: es'), e :: es', by simp, by rw [hX]; simp, .inl rfl, hes, by simp at hsum ⊢; omega⟩
        clear hX hes hsum
        generalize p.length = pl at *
        go_wp2
        go_round
        case rel =>
          obtain ⟨p', X, es, h1, h2⟩ := HR.out
          exact ⟨p', X, es, by rw [h1]; go_num, h2⟩
        case measure => simp [intOf]; omega
  · go_enter Try.func84, Try.ntmps84
    go_wp2_with fail
    go_loop [1] (fun x => ∃ (p X : List UInt8) (es : List V), x = .int .i64 p.length ∧ t = p ++ (X ++ c :: post) ∧ (X = innerL es ∨ X = seps es) ∧ (∀ e ∈ es, Wf e ∧ EndOK e) ∧ p.length + X.length = (pre ++ [60]).length + (innerL (parts v)).length) (fun x => t.length - (intOf x).toNat)
    case atStart => exact ⟨pre ++ [60], innerL (parts v), parts v, by simp, HEQ.out, .inl rfl, HPS.out, rfl⟩
    case round =>
      obtain ⟨p, X, es, rfl, hX, hXe, hes, hsum⟩ := hrel
      have hpl2 : p.length < t.length := by rw [hX]; simp; omega
      have hpb : p.length ≤ 100000 := by omega
      have hcase : X = [] ∨ (∃ e es', X = text e ++ seps es' ∧ es = e :: es') ∨ (∃ e es', X = 32 :: innerL (e :: es') ∧ es = e :: es') := by
        cases es with
        | nil => rcases hXe with rfl | rfl <;> exact .inl rfl
        | cons e es' =>
          rcases hXe with rfl | rfl
          · exact .inr (.inl ⟨e, es', rfl, rfl⟩)
          · exact .inr (.inr ⟨e, es', rfl, rfl⟩)
      clear hXe
      rcases hcase with rfl | ⟨e, es', rfl, rfl⟩ | ⟨e, es', rfl, rfl⟩
      · have hg : t[p.length] = c := by simp [hX]
        have HSUM : Hid ((fin : Int) = (p.length : Int) + 1) := by have := HFIN.out; show _ = _; simp at hsum this ⊢; omega
        clear hX hsum
        generalize p.length = pl at *
        rcases hcN with hcn | ⟨hcn, hcn2⟩
        · go_wp2
          go_ret
          exact ⟨by rw [HSUM.out] <;> rfl, rfl⟩
        · go_wp2
          go_ret
          exact ⟨by rw [HSUM.out] <;> rfl, rfl⟩
      · obtain ⟨hwe, hoke⟩ := hes e (by simp)
        have htl2 : (text e).length ≤ 100000 := by rw [hX] at hl; simp at hl; omega
        obtain ⟨ch, rr, htxe, n32, n93, n62⟩ := text_head hwe htl2
        have hXX : t = p ++ (text e ++ (seps es' ++ c :: post)) := by rw [hX]; simp
        have hg : t[p.length] = ch := by simp [hXX, htxe]
        have hcl' := hoke p (seps es' ++ c :: post) w (term_seps es' c hcl post) (by rw [← hXX]; exact hl)
        rw [← hXX] at hcl'
        have HC := hide hcl'
        have c93 : ((ch.toNat : Int) != 93) = true := by
          have : ch.toNat ≠ 93 := fun e => n93 (UInt8.toNat_inj.1 e)
          simp; omega
        have c62 : ((ch.toNat : Int) != 62) = true := by
          have : ch.toNat ≠ 62 := fun e => n62 (UInt8.toNat_inj.1 e)
          simp; omega
        have c32 : ((ch.toNat : Int) == 32) = false := by
          have : ch.toNat ≠ 32 := fun e => n32 (UInt8.toNat_inj.1 e)
          simp; omega
        have HR : Hid (∃ (p' X : List UInt8) (es : List V), p'.length = p.length + (text e).length ∧ t = p' ++ (X ++ c :: post) ∧ (X = innerL es ∨ X = seps es) ∧ (∀ e ∈ es, Wf e ∧ EndOK e) ∧ p'.length + X.length = (pre ++ [60]).length + (innerL (parts v)).length) :=
          ⟨p ++ text e, seps es', es', by simp, by rw [hXX]; simp, .inr rfl, fun u hu => hes u (by simp [hu]), by simp at hsum ⊢; omega⟩
        have hte : 0 < (text e).length := by rw [htxe]; simp
        have hin : p.length + (text e).length < t.length := by rw [hXX]; simp; omega
        clear hcl' hX hXX hes hsum htxe
        generalize hpe : p.length + (text e).length = pe at *
        generalize p.length = pl at *
        go_wp2_with (go_at_call 84; refine HC.out.mono ?_; rintro e w' ⟨rfl, hw⟩; subst hw)
        go_round
        case rel =>
          obtain ⟨p', X, es, h1, h2⟩ := HR.out
          exact ⟨p', X, es, by rw [h1], h2⟩
        case measure => simp [intOf]; omega
      · have hg : t[p.length] = 32 := by simp [hX]
        have HR : Hid (∃ (p' X : List UInt8) (es : List V), p'.length = p.length + 1 ∧ t = p' ++ (X ++ c :: post) ∧ (X = innerL es ∨ X = seps es) ∧ (∀ e ∈ es, Wf e ∧ EndOK e) ∧ p'.length + X.length = (pre ++ [60]).length + (innerL (parts v)).length) :=
          ⟨p ++ [32], innerL (e :: es'), e :: es', by simp, by rw [hX]; simp, .inl rfl, hes, by simp at hsum ⊢; omega⟩
        clear hX hes hsum
        generalize p.length = pl at *
        go_wp2
        go_round
        case rel =>
          obtain ⟨p', X, es, h1, h2⟩ := HR.out
          exact ⟨p', X, es, by rw [h1]; go_num, h2⟩
        case measure => simp [intOf]; omega
theorem end_upto : ∀ (n : Nat) (v : V), size v < n → Wf v → EndOK v := by
  intro n
  induction n with
  | zero => intro v h; omega
  | succ n ih =>
    intro v hv h
    have hop : canIter v = true → EndOK v := fun hc => end_open h hc fun e he hs => ih e (by omega) he
    rcases wf_cases h with rfl | ⟨k, rfl, hk⟩ | ⟨s, rfl⟩ | ⟨l, r, rfl, _⟩ | ⟨l, r, rfl, _⟩
    · exact hop rfl
    · exact end_int k hk
    · exact end_str s
    · exact hop rfl
    · exact hop rfl
theorem end_calls {v : V} (h : Wf v) : EndOK v := end_upto (size v + 1) v (by omega) h
end Go.Proofs.Qxb6500606a
