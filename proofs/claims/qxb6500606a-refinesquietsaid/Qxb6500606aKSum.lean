/-
  Keeps: Sum. (Seat 606 alone.)
-/
import Derived.Test.Qxb6500606aKParts
namespace Go.Proofs.Qxb6500606a
open Go.ChangeShapes Go.WideShapes Go.ChangeAt Go.RowKit
attribute [local go_sem] str_size str_app str_app1 str_1app str_toList str_get
set_option linter.unusedVariables false

theorem elems_app : ∀ {a : V} (b : V), Wf a → isL a = true → elems (appL a b) = elems a ++ elems b := by
  intro a
  induction a with
  | nil => intro b _ _; rfl
  | node t o x l r ihl ihr =>
    intro b h hL
    rcases wf_cases h with e | ⟨n, e, hn⟩ | ⟨s, e⟩ | ⟨l1, r1, e, hL1, h1, h2⟩ | ⟨l1, r1, e, _⟩
    · cases e
    · cases e; cases hL
    · cases e; cases hL
    · cases e
      show elems (vcons l (appL r b)) = _
      rw [elems_cons, ihr b h2 hL1, elems_cons]; rfl
    · cases e; cases hL
theorem wf_app : ∀ {a b : V}, Wf a → isL a = true → Wf b → isL b = true → Wf (appL a b) := by
  intro a
  induction a with
  | nil => intro b _ _ hb _; exact hb
  | node t o x l r ihl ihr =>
    intro b h hL hb hLb
    rcases wf_cases h with e | ⟨n, e, hn⟩ | ⟨s, e⟩ | ⟨l1, r1, e, hL1, h1, h2⟩ | ⟨l1, r1, e, _⟩
    · cases e
    · cases e; cases hL
    · cases e; cases hL
    · cases e
      refine ⟨rfl, .inr (.inr (.inl ⟨rfl, rfl, ?_, h1, ihr h2 hL1 hb hLb⟩))⟩
      exact appL_isL hLb
    · cases e; cases hL
theorem seps_app : ∀ (x y : List V), seps (x ++ y) = seps x ++ seps y
  | [], y => rfl
  | e :: x, y => by simp [seps, seps_app x y]
theorem innerL_app {x y : List V} (hx : x ≠ []) (hy : y ≠ []) : innerL (x ++ y) = innerL x ++ 32 :: innerL y := by
  cases x with
  | nil => exact absurd rfl hx
  | cons e x =>
    cases y with
    | nil => exact absurd rfl hy
    | cons f y =>
      show text e ++ seps (x ++ f :: y) = (text e ++ seps x) ++ 32 :: innerL (f :: y)
      rw [seps_app, seps_cons]; simp
/-- Two lists joined, none of them empty: the text. -/
theorem text_app {a b : V} (ha : Wf a) (hb : Wf b) (hLa : isL a = true) (hLb : isL b = true) (na : a ≠ .nil) (nb : b ≠ .nil) :
    text (appL a b) = (text a).take ((text a).length - 1) ++ 32 :: (text b).drop 1 := by
  have hw := wf_app ha hLa hb hLb
  have hL : isL (appL a b) = true := appL_isL hLb
  have ea : elems a ≠ [] := by cases a with | nil => exact absurd rfl na | node t o x l r => have := isL_node hLa; subst this; simp [elems]
  have eb : elems b ≠ [] := by cases b with | nil => exact absurd rfl nb | node t o x l r => have := isL_node hLb; subst this; simp [elems]
  rw [text_list _ hL, text_list _ hLa, text_list _ hLb, (inner_elems hw hL).1, (inner_elems ha hLa).1, (inner_elems hb hLb).1, elems_app b ha hLa, innerL_app ea eb]
  have e1 : (91 :: (innerL (elems a) ++ [93])).take ((91 :: (innerL (elems a) ++ [93])).length - 1) = 91 :: innerL (elems a) := by
    have : (91 :: (innerL (elems a) ++ [93])).length - 1 = (91 :: innerL (elems a)).length := by simp
    rw [this, ← List.cons_append, List.take_left]
  rw [e1]
  simp
theorem text_nil_iff {a : V} (h : Wf a) (hL : isL a = true) : text a = [91, 93] ↔ a = .nil := by
  constructor
  · intro e
    cases a with
    | nil => rfl
    | node t o x l r =>
      rcases wf_cases h with q | ⟨n, q, hn⟩ | ⟨s, q⟩ | ⟨l1, r1, q, hL1, h1, h2⟩ | ⟨l1, r1, q, _⟩
      · cases q
      · cases q; cases hL
      · cases q; cases hL
      · cases q
        rw [text_list _ rfl, inner_cons] at e
        simp at e
        have hll := congrArg List.length e
        simp at hll
        obtain ⟨c, rr, h3, _, h4, _⟩ := text_head h1 (by omega)
        rw [h3] at e
        simp at e
        first | exact absurd e.1 h4 | exact absurd e h4 | skip
      · cases q; cases hL
  · rintro rfl; rfl
theorem kinds5 {v : V} (h : Wf v) : kind v = 1 ∨ kind v = 2 ∨ kind v = 3 ∨ kind v = 4 := by
  rcases wf_cases h with rfl | ⟨n, rfl, hn⟩ | ⟨s, rfl⟩ | ⟨l, r, rfl, _⟩ | ⟨l, r, rfl, _⟩
  · exact .inr (.inr (.inl rfl))
  · exact .inl rfl
  · exact .inr (.inl rfl)
  · exact .inr (.inr (.inl rfl))
  · exact .inr (.inr (.inr rfl))
/-- What Sum hands back. -/
def SumOut (w : World) (r : Int × V) (e : Ending) (w' : World) : Prop := e = .returned (.tuple #[.string (str (if r.1 = 0 then text r.2 else [])), .int .i64 r.1]) ∧ Below w.heap.size w w'
section
variable {a b : V} (w : World)
theorem can_at (h : Wf a) (hl : (text a).length ≤ 1000) (c : Nat) (hc : c = 1 ∨ c = 2 ∨ c = 3 ∨ c = 4) (W : World) : Calls Try.prog 65 #[.string (str (text a)), .int .i64 c] W fun e w' => e = .returned (.bool (canT (kind a) c)) ∧ w' = W := by
  have := can_calls (text a) (by omega) c hc (by rw [kind_text h (by omega)]; rcases kinds5 h with e | e | e | e <;> rw [e] <;> simp) W
  rwa [kind_text h (by omega)] at this
theorem kindOf_at (h : Wf a) (hl : (text a).length ≤ 1000) (W : World) : Calls Try.prog 63 #[.string (str (text a))] W fun e w' => e = .returned (.int .i64 (kind a)) ∧ w' = W := by
  have := kindOf_calls (text a) (by omega) W
  rwa [kind_text h (by omega)] at this
set_option maxHeartbeats 400000 in
theorem sum_pair (ha : Wf a) (hk : kind a = 4) (hla : (text a).length ≤ 1000) (y : List UInt8) : Calls Try.prog 64 #[.string (str (text a)), .string (str y)] w (SumOut w (5, .nil)) := by
  have hc := can_at ha hla 1 (.inl rfl) w
  rw [hk] at hc
  replace hc := hide hc
  generalize text a = ta at *
  go_enter Try.func64, Try.ntmps64
  go_wp2_with (go_at_call 65; refine hc.out.mono ?_; rintro e w' ⟨rfl, hw⟩; subst w')
  go_ret2
  exact ⟨rfl, Below.refl _ _⟩
theorem sum_none (y : List UInt8) : Calls Try.prog 64 #[.string (str []), .string (str y)] w (SumOut w (5, .nil)) := by
  have hc := hide (can_calls [] (by decide) 1 (.inl rfl) (.inl rfl) w)
  go_enter Try.func64, Try.ntmps64
  go_wp2_with (go_at_call 65; refine hc.out.mono ?_; rintro e w' ⟨rfl, hw⟩; subst w')
  go_ret2
  exact ⟨rfl, Below.refl _ _⟩
set_option maxHeartbeats 400000 in
theorem sum_mix (ha : Wf a) (hb : Wf b) (hk : kind a ≠ 4) (hkb : kind b ≠ kind a) (hla : (text a).length ≤ 1000) (hlb : (text b).length ≤ 1000) : Calls Try.prog 64 #[.string (str (text a)), .string (str (text b))] w (SumOut w (6, .nil)) := by
  have hc := can_at ha hla 1 (.inl rfl) w
  have hka := kindOf_at ha hla w
  have hkb' := kindOf_at hb hlb w
  have hct : canT (kind a) 1 = true := by rcases kinds5 ha with e | e | e | e <;> rw [e] <;> first | rfl | exact absurd e hk
  rw [hct] at hc
  have hne : ((kind b : Int) != (kind a : Int)) = true := by simp; omega
  replace hc := hide hc
  replace hka := hide hka
  replace hkb' := hide hkb'
  generalize text a = ta at *
  generalize text b = tb at *
  go_enter Try.func64, Try.ntmps64
  go_wp2_with (first | (go_at_call 65; refine hc.out.mono ?_; rintro e w' ⟨rfl, hw⟩; subst w') | (go_at_call_of 63 (Value.string (str ta)); refine hka.out.mono ?_; rintro e w' ⟨rfl, hw⟩; subst w') | (go_at_call_of 63 (Value.string (str tb)); refine hkb'.out.mono ?_; rintro e w' ⟨rfl, hw⟩; subst w'))
  go_ret2
  exact ⟨rfl, Below.refl _ _⟩
set_option maxHeartbeats 1000000 in
theorem sum_int (n m : Int) (hn : I64 n) (hm : I64 m) : Calls Try.prog 64 #[.string (str (itoa n)), .string (str (itoa m))] w (SumOut w (0, vint (wr (n + m)))) := by
  have wn : Wf (vint n) := ⟨rfl, .inl ⟨rfl, rfl, rfl, rfl, hn⟩⟩
  have wm : Wf (vint m) := ⟨rfl, .inl ⟨rfl, rfl, rfl, rfl, hm⟩⟩
  have ln : (text (vint n)).length ≤ 1000 := by have := text_vint n; omega
  have lm : (text (vint m)).length ≤ 1000 := by have := text_vint m; omega
  have hc := can_at wn ln 1 (.inl rfl) w
  have hka := kindOf_at wn ln w
  have hkb := kindOf_at wm lm w
  have hct : canT (kind (vint n)) 1 = true := rfl
  rw [hct] at hc
  have hna := hide (numOf_calls n hn w)
  have hnb := hide (numOf_calls m hm w)
  have hit := itoa_calls (wr (n + m)) w (wr_i64 _)
  have hlt : decide (((itoa (wr (n + m))).length : Int) > 30) = false := decide_eq_false (by have := itoa_length (wr (n + m)); omega)
  rw [text_int] at *
  replace hc := hide hc
  replace hka := hide hka
  replace hkb := hide hkb
  replace hit := hide hit
  generalize hTS : itoa (wr (n + m)) = ts at *
  have HTS := hide hTS
  clear hTS
  generalize hA : itoa n = ta at *
  generalize hB : itoa m = tb at *
  clear hA hB
  have hw : wrap64 (n + m) = wr (n + m) := wr_eq _
  go_enter Try.func64, Try.ntmps64
  go_wp2_with (first | (go_at_call 65; refine hc.out.mono ?_; rintro e w' ⟨rfl, hw⟩; subst w') | (go_at_call_of 63 (Value.string (str ta)); refine hka.out.mono ?_; rintro e w' ⟨rfl, hw⟩; subst w') | (go_at_call_of 63 (Value.string (str tb)); refine hkb.out.mono ?_; rintro e w' ⟨rfl, hw⟩; subst w') | (go_at_call_of 32 (Value.string (str ta)); refine hna.out.mono ?_; rintro e w' ⟨rfl, hw⟩; subst w') | (go_at_call_of 32 (Value.string (str tb)); refine hnb.out.mono ?_; rintro e w' ⟨rfl, hw⟩; subst w') | (go_at_call 33; refine hit.out.mono ?_; rintro e w1 ⟨rfl, hb1⟩))
  go_ret2
  exact ⟨by rw [← HTS.out]; rfl, hb1⟩
set_option maxHeartbeats 1000000 in
theorem sum_str (s u : List UInt8) (hs : s.length ≤ 100) (hu : u.length ≤ 100) (r : Int × V) (hr : (30 < (text (vstr (s ++ u))).length ∧ r = (7, .nil)) ∨ (¬ 30 < (text (vstr (s ++ u))).length ∧ r = (0, vstr (s ++ u)))) :
    Calls Try.prog 64 #[.string (str (text (vstr s))), .string (str (text (vstr u)))] w (SumOut w r) := by
  have ws : Wf (vstr s) := ⟨rfl, .inr (.inl ⟨rfl, rfl, rfl, rfl⟩)⟩
  have wu : Wf (vstr u) := ⟨rfl, .inr (.inl ⟨rfl, rfl, rfl, rfl⟩)⟩
  have is := nat_i64 (show s.length ≤ 100000 by omega)
  have iu := nat_i64 (show u.length ≤ 100000 by omega)
  have ls : (text (vstr s)).length = (itoa s.length).length + 1 + s.length := by rw [text_str]; simp; omega
  have lu : (text (vstr u)).length = (itoa u.length).length + 1 + u.length := by rw [text_str]; simp; omega
  have ils := itoa_length s.length
  have ilu := itoa_length u.length
  have hc := can_at ws (by omega) 1 (.inl rfl) w
  have hka := kindOf_at ws (by omega) w
  have hkb := kindOf_at wu (by omega) w
  have hct : canT (kind (vstr s)) 1 = true := rfl
  rw [hct] at hc
  have hsa := stop_calls (text (vstr s)) 0 (Nat.zero_le _) (by omega) w
  have hsb := stop_calls (text (vstr u)) 0 (Nat.zero_le _) (by omega) w
  have esa : stopF (text (vstr s)) 0 = (itoa s.length).length := by
    have := stopF_digs (itoa s.length) [] (58 :: s) (itoa_dig _ is).1 (fun c hc => by simp at hc; subst hc; decide)
    rw [text_str]; simpa using this
  have esb : stopF (text (vstr u)) 0 = (itoa u.length).length := by
    have := stopF_digs (itoa u.length) [] (58 :: u) (itoa_dig _ iu).1 (fun c hc => by simp at hc; subst hc; decide)
    rw [text_str]; simpa using this
  rw [esa] at hsa
  rw [esb] at hsb
  have hit := itoa_calls ((s.length : Int) + (u.length : Int)) w (by constructor <;> omega)
  have hxa : (str (text (vstr s))).extract ((itoa s.length).length + 1) (text (vstr s)).length = str s := by
    rw [str_extract, ls, text_str]
    congr 1
    rw [show itoa (s.length : Int) ++ 58 :: s = (itoa s.length ++ [58]) ++ s by simp]
    rw [show (itoa (s.length : Int)).length + 1 = (itoa s.length ++ [58]).length by simp, List.drop_left]
    exact List.take_of_length_le (by simp)
  have hxb : (str (text (vstr u))).extract ((itoa u.length).length + 1) (text (vstr u)).length = str u := by
    rw [str_extract, lu, text_str]
    congr 1
    rw [show itoa (u.length : Int) ++ 58 :: u = (itoa u.length ++ [58]) ++ u by simp]
    rw [show (itoa (u.length : Int)).length + 1 = (itoa u.length ++ [58]).length by simp, List.drop_left]
    exact List.take_of_length_le (by simp)
  have htx : itoa ((s.length : Int) + (u.length : Int)) ++ 58 :: (s ++ u) = text (vstr (s ++ u)) := by rw [text_str, List.length_append, Int.natCast_add]
  have hna : ((text (vstr s)).length : Int) - (itoa s.length).length - 1 = s.length := by omega
  have hnb : (s.length : Int) + (text (vstr u)).length - (itoa u.length).length - 1 = (s.length : Int) + (u.length : Int) := by omega
  replace hc := hide hc
  replace hka := hide hka
  replace hkb := hide hkb
  replace hsa := hide hsa
  replace hsb := hide hsb
  replace hit := hide hit
  have HTX := hide htx
  have HR := hide hr
  clear hr
  clear htx esa esb
  have hb1 : (itoa (s.length : Int)).length + 1 ≤ (text (vstr s)).length := by omega
  have hb2 : (itoa (u.length : Int)).length + 1 ≤ (text (vstr u)).length := by omega
  have hnl := itoa_length ((s.length : Int) + (u.length : Int))
  have hb3 : (text (vstr s)).length ≤ 1000 := by omega
  have hb4 : (text (vstr u)).length ≤ 1000 := by omega
  clear ls lu
  generalize hTA : text (vstr s) = ta at *
  generalize hTB : text (vstr u) = tb at *
  generalize hIA : (itoa (s.length : Int)).length = ia at *
  generalize hIB : (itoa (u.length : Int)).length = ib at *
  generalize hNS : itoa ((s.length : Int) + (u.length : Int)) = ns at *
  clear hTA hTB hIA hIB hNS ws wu is iu
  go_enter Try.func64, Try.ntmps64
  go_wp2_with (first | (go_at_call 65; refine hc.out.mono ?_; rintro e w' ⟨rfl, hw⟩; subst w') | (go_at_call_of 63 (Value.string (str ta)); refine hka.out.mono ?_; rintro e w' ⟨rfl, hw⟩; subst w') | (go_at_call_of 63 (Value.string (str tb)); refine hkb.out.mono ?_; rintro e w' ⟨rfl, hw⟩; subst w') | (go_at_call_of 67 (Value.string (str ta)); refine hsa.out.mono ?_; rintro e w' ⟨rfl, hw⟩; subst w') | (go_at_call_of 67 (Value.string (str tb)); refine hsb.out.mono ?_; rintro e w' ⟨rfl, hw⟩; subst w') | (go_at_call 33; refine hit.out.mono ?_; rintro e w1 ⟨rfl, hb1⟩))
  go_region
  rw [HTX.out]
  have hb2 : Below w.heap.size w w1.drew := ⟨hb1.os, hb1.tape, hb1.output, hb1.size, hb1.block⟩
  have htl : (text (vstr (s ++ u))).length ≤ 1000 := by rw [← HTX.out]; simp; omega
  generalize hTT : text (vstr (s ++ u)) = tt at *
  have HTT := hide hTT
  clear hTT
  rcases HR.out with ⟨hbig, hr⟩ | ⟨hbig, hr⟩
  · have hd : decide ((tt.length : Int) > 30) = true := decide_eq_true (by omega)
    have HRR := hide hr
    clear hr
    go_wp2
    go_ret2
    exact ⟨by rw [HRR.out]; rfl, hb2⟩
  · have hd : decide ((tt.length : Int) > 30) = false := decide_eq_false (by omega)
    have HRR := hide hr
    clear hr
    go_wp2
    go_ret2
    exact ⟨by rw [HRR.out]; show _ = Ending.returned (.tuple #[.string (str (text (vstr (s ++ u)))), .int .i64 0]); rw [HTT.out]; rfl, hb2⟩
theorem app_nil : ∀ {a : V}, Wf a → isL a = true → appL a .nil = a := by
  intro a
  induction a with
  | nil => intro _ _; rfl
  | node t o x l r ihl ihr =>
    intro h hL
    rcases wf_cases h with e | ⟨n, e, hn⟩ | ⟨s, e⟩ | ⟨l1, r1, e, hL1, h1, h2⟩ | ⟨l1, r1, e, _⟩
    · cases e
    · cases e; cases hL
    · cases e; cases hL
    · cases e
      show vcons l (appL r .nil) = _
      rw [ihr h2 hL1]
    · cases e; cases hL
set_option maxHeartbeats 1000000 in
theorem sum_list (ha : Wf a) (hb : Wf b) (hLa : isL a = true) (hLb : isL b = true) (hka : kind a = 3) (hkb : kind b = 3) (la : (text a).length ≤ 1000) (lb : (text b).length ≤ 1000) (r : Int × V) (hr : (30 < (text (appL a b)).length ∧ r = (7, .nil)) ∨ (¬ 30 < (text (appL a b)).length ∧ r = (0, appL a b))) :
    Calls Try.prog 64 #[.string (str (text a)), .string (str (text b))] w (SumOut w r) := by
  have hc := can_at ha la 1 (.inl rfl) w
  have ka := kindOf_at ha la w
  have kb := kindOf_at hb lb w
  rw [hka] at hc ka
  rw [hkb] at kb
  replace hc := hide hc
  replace ka := hide ka
  replace kb := hide kb
  have na := text_nil_iff ha hLa
  have nb := text_nil_iff hb hLb
  by_cases h1 : a = .nil
  · have e1 : (text a == [91, 93]) = true := by simp [na.2 h1]
    have htt : text (appL a b) = text b := by rw [h1]; rfl
    have HR : Hid ((30 < (text b).length ∧ r = (7, .nil)) ∨ (¬ 30 < (text b).length ∧ r = (0, appL a b))) := by rw [htt] at hr; exact hr
    have HTT := hide htt
    clear na nb hr htt
    generalize text a = ta at *
    generalize text b = tb at *
    rcases HR.out with ⟨hbig, hr⟩ | ⟨hbig, hr⟩
    · have hd : decide ((tb.length : Int) > 30) = true := decide_eq_true (by omega)
      have HRR := hide hr
      clear hr
      go_enter Try.func64, Try.ntmps64
      go_wp2_with (first | (go_at_call 65; refine hc.out.mono ?_; rintro e w' ⟨rfl, hw⟩; subst w') | (go_at_call_of 63 (Value.string (str ta)); refine ka.out.mono ?_; rintro e w' ⟨rfl, hw⟩; subst w') | (go_at_call_of 63 (Value.string (str tb)); refine kb.out.mono ?_; rintro e w' ⟨rfl, hw⟩; subst w'))
      go_ret2
      exact ⟨by rw [HRR.out]; rfl, Below.refl _ _⟩
    · have hd : decide ((tb.length : Int) > 30) = false := decide_eq_false (by omega)
      have HRR := hide hr
      clear hr
      go_enter Try.func64, Try.ntmps64
      go_wp2_with (first | (go_at_call 65; refine hc.out.mono ?_; rintro e w' ⟨rfl, hw⟩; subst w') | (go_at_call_of 63 (Value.string (str ta)); refine ka.out.mono ?_; rintro e w' ⟨rfl, hw⟩; subst w') | (go_at_call_of 63 (Value.string (str tb)); refine kb.out.mono ?_; rintro e w' ⟨rfl, hw⟩; subst w'))
      go_ret2
      exact ⟨by rw [HRR.out]; show _ = Ending.returned (.tuple #[.string (str (text (appL a b))), .int .i64 0]); rw [HTT.out]; rfl, Below.refl _ _⟩
  · have e1 : (text a == [91, 93]) = false := by
      have : text a ≠ [91, 93] := fun e => h1 (na.1 e)
      simpa using this
    by_cases h2 : b = .nil
    · have e2 : (text b == [91, 93]) = true := by simp [nb.2 h2]
      have htt : text (appL a b) = text a := by rw [h2, app_nil ha hLa]
      have HR : Hid ((30 < (text a).length ∧ r = (7, .nil)) ∨ (¬ 30 < (text a).length ∧ r = (0, appL a b))) := by rw [htt] at hr; exact hr
      have HTT := hide htt
      clear na nb hr htt
      generalize text a = ta at *
      generalize text b = tb at *
      rcases HR.out with ⟨hbig, hr⟩ | ⟨hbig, hr⟩
      · have hd : decide ((ta.length : Int) > 30) = true := decide_eq_true (by omega)
        have HRR := hide hr
        clear hr
        go_enter Try.func64, Try.ntmps64
        go_wp2_with (first | (go_at_call 65; refine hc.out.mono ?_; rintro e w' ⟨rfl, hw⟩; subst w') | (go_at_call_of 63 (Value.string (str ta)); refine ka.out.mono ?_; rintro e w' ⟨rfl, hw⟩; subst w') | (go_at_call_of 63 (Value.string (str tb)); refine kb.out.mono ?_; rintro e w' ⟨rfl, hw⟩; subst w'))
        go_ret2
        exact ⟨by rw [HRR.out]; rfl, Below.refl _ _⟩
      · have hd : decide ((ta.length : Int) > 30) = false := decide_eq_false (by omega)
        have HRR := hide hr
        clear hr
        go_enter Try.func64, Try.ntmps64
        go_wp2_with (first | (go_at_call 65; refine hc.out.mono ?_; rintro e w' ⟨rfl, hw⟩; subst w') | (go_at_call_of 63 (Value.string (str ta)); refine ka.out.mono ?_; rintro e w' ⟨rfl, hw⟩; subst w') | (go_at_call_of 63 (Value.string (str tb)); refine kb.out.mono ?_; rintro e w' ⟨rfl, hw⟩; subst w'))
        go_ret2
        exact ⟨by rw [HRR.out]; show _ = Ending.returned (.tuple #[.string (str (text (appL a b))), .int .i64 0]); rw [HTT.out]; rfl, Below.refl _ _⟩
    · have e2 : (text b == [91, 93]) = false := by
        have : text b ≠ [91, 93] := fun e => h2 (nb.1 e)
        simpa using this
      have htt := text_app ha hb hLa hLb h1 h2
      have pa : 1 ≤ (text a).length := by rw [text_list a hLa]; simp
      have pb : 1 ≤ (text b).length := by rw [text_list b hLb]; simp
      have xa : (str (text a)).extract 0 ((text a).length - 1) = str ((text a).take ((text a).length - 1)) := by rw [str_extract]; simp
      have xb : (str (text b)).extract 1 (text b).length = str ((text b).drop 1) := by
        rw [str_extract]
        congr 1
        exact List.take_of_length_le (by simp)
      have hl2 : (text (appL a b)).length ≤ 3000 := by rw [htt]; simp; omega
      have lx : ((text a).take ((text a).length - 1)).length ≤ 1000 := by simp; omega
      have ly : ((text b).drop 1).length ≤ 1000 := by simp; omega
      have HTT := hide htt
      have HR := hide hr
      clear na nb hr htt
      generalize hxa : (text a).take ((text a).length - 1) = da at *
      generalize hxb : (text b).drop 1 = db at *
      generalize text a = ta at *
      generalize text b = tb at *
      clear hxa hxb
      go_enter Try.func64, Try.ntmps64
      go_wp2_with (first | (go_at_call 65; refine hc.out.mono ?_; rintro e w' ⟨rfl, hw⟩; subst w') | (go_at_call_of 63 (Value.string (str ta)); refine ka.out.mono ?_; rintro e w' ⟨rfl, hw⟩; subst w') | (go_at_call_of 63 (Value.string (str tb)); refine kb.out.mono ?_; rintro e w' ⟨rfl, hw⟩; subst w'))
      go_region
      rw [← HTT.out]
      have hb2 : Below w.heap.size w w.drew := ⟨rfl, rfl, rfl, Nat.le_refl _, fun _ _ => rfl⟩
      generalize hTT : text (appL a b) = tt at *
      have HT2 := hide hTT
      clear hTT
      rcases HR.out with ⟨hbig, hr⟩ | ⟨hbig, hr⟩
      · have hd : decide ((tt.length : Int) > 30) = true := decide_eq_true (by omega)
        have HRR := hide hr
        clear hr
        go_wp2
        go_ret2
        exact ⟨by rw [HRR.out]; rfl, hb2⟩
      · have hd : decide ((tt.length : Int) > 30) = false := decide_eq_false (by omega)
        have HRR := hide hr
        clear hr
        go_wp2
        go_ret2
        exact ⟨by rw [HRR.out]; show _ = Ending.returned (.tuple #[.string (str (text (appL a b))), .int .i64 0]); rw [HT2.out]; rfl, hb2⟩
theorem sum_calls (ha : Wf a) (hb : Wf b) (la : (text a).length ≤ 30) (lb : (text b).length ≤ 30) :
    Calls Try.prog 64 #[.string (str (text a)), .string (str (text b))] w (SumOut w (plusF a b)) := by
  by_cases hk : kind a = 4
  · have : plusF a b = (5, .nil) := by unfold plusF; rw [if_pos hk]
    rw [this]; exact sum_pair w ha hk (by omega) _
  · by_cases hkb : kind b ≠ kind a
    · have : plusF a b = (6, .nil) := by unfold plusF; rw [if_neg hk, if_pos hkb]
      rw [this]; exact sum_mix w ha hb hk hkb (by omega) (by omega)
    · have hkb' : kind b = kind a := by omega
      have hP : plusF a b = if 30 < (text (sumV a b)).length then (7, .nil) else (0, sumV a b) := by unfold plusF; rw [if_neg hk, if_neg hkb]
      have hr : (30 < (text (sumV a b)).length ∧ plusF a b = (7, .nil)) ∨ (¬ 30 < (text (sumV a b)).length ∧ plusF a b = (0, sumV a b)) := by
        by_cases h30 : 30 < (text (sumV a b)).length
        · exact .inl ⟨h30, by rw [hP, if_pos h30]⟩
        · exact .inr ⟨h30, by rw [hP, if_neg h30]⟩
      rcases wf_cases ha with rfl | ⟨n, rfl, hn⟩ | ⟨s, rfl⟩ | ⟨l, q, rfl, hL, h1, h2⟩ | ⟨l, q, rfl, h1, h2⟩
      · have hLb : isL b = true := by rcases wf_cases hb with rfl | ⟨m, rfl, _⟩ | ⟨u, rfl⟩ | ⟨l, q, rfl, _⟩ | ⟨l, q, rfl, _⟩ <;> first | rfl | cases hkb'
        exact sum_list w ha hb rfl hLb rfl hkb' (by omega) (by omega) _ hr
      · rcases wf_cases hb with rfl | ⟨m, rfl, hm⟩ | ⟨u, rfl⟩ | ⟨l, q, rfl, _⟩ | ⟨l, q, rfl, _⟩
        · cases hkb'
        · have e : plusF (vint n) (vint m) = (0, vint (wr (n + m))) := by rw [hP, if_neg (by have := text_vint (wr (n + m)); show ¬ 30 < (text (vint (wr (n + m)))).length; omega)]; rfl
          rw [e]; exact sum_int w n m hn hm
        · cases hkb'
        · cases hkb'
        · cases hkb'
      · rcases wf_cases hb with rfl | ⟨m, rfl, hm⟩ | ⟨u, rfl⟩ | ⟨l, q, rfl, _⟩ | ⟨l, q, rfl, _⟩
        · cases hkb'
        · cases hkb'
        · rw [text_str] at la lb
          simp at la lb
          exact sum_str w s u (by omega) (by omega) _ hr
        · cases hkb'
        · cases hkb'
      · have hLb : isL b = true := by rcases wf_cases hb with rfl | ⟨m, rfl, _⟩ | ⟨u, rfl⟩ | ⟨l, q, rfl, _⟩ | ⟨l, q, rfl, _⟩ <;> first | rfl | cases hkb'
        exact sum_list w ha hb rfl hLb rfl hkb' (by omega) (by omega) _ hr
      · exact absurd rfl hk
end
end Go.Proofs.Qxb6500606a
