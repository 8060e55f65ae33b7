/-
  A STEP, PLAINLY; what each word keeps: at most five values, each of at most thirty bytes of text.
-/
import Derived.Test.Qxb6500606aDo
namespace Go.Proofs.Qxb6500606a
open Go.ChangeShapes Go.WideShapes Go.ChangeAt Go.RowKit Go.Shelf
set_option linter.unusedVariables false

structure Ans where
  e : Int
  n : Int
  s : List UInt8
def ofE (r : Int × St) : Ans × St := (⟨r.1, 0, []⟩, r.2)
/-- Do. -/
def doF (k a b : Int) (S : List UInt8) (vs : St) : Ans × St :=
  if k = 1 then ofE (pushF a b S vs) else if k = 2 then ofE (consF vs) else if k = 3 then ofE (pairF vs) else if k = 4 then ofE (addF vs) else if k = 5 then ofE (negF vs) else
  if k = 6 then ofE (lenF vs) else if k = 7 then ofE (findF vs) else if k = 8 then ofE (foldF vs) else if k = 9 then ofE (dupF vs) else if k = 10 then ofE (dropF vs) else
  if k = 11 then (⟨(topIntF vs).2, (topIntF vs).1, []⟩, vs) else if k = 12 then ofE (extraF a vs) else if k = 13 then (⟨0, vs.length, []⟩, vs) else if k = 14 then (⟨0, 0, showF vs⟩, vs) else
  if k = 15 then (⟨0, 1, []⟩, vs) else (⟨0, 0, []⟩, vs)
def Ans.v (a : Ans) : Value := ansV a.e a.n a.s

theorem okay_lay {d : Nat} {v : V} {vs : St} (hok : Okay vs) (hn : vs.length - d + 1 ≤ 5) (hv : (text v).length ≤ 30) : Okay (lay d v vs).2 := by
  refine ⟨?_, fun u hu => ?_⟩
  · show (vs.take (vs.length - d) ++ [v]).length ≤ 5
    simp; omega
  · rcases List.mem_append.1 hu with h | h
    · exact hok.2 u (List.mem_of_mem_take h)
    · simp at h; subst h; exact hv
theorem okay_take {k : Nat} {vs : St} (hok : Okay vs) : Okay (vs.take k) := ⟨by have := hok.1; simp; omega, fun u hu => hok.2 u (List.mem_of_mem_take hu)⟩
theorem text_vint (n : Int) : (text (vint n)).length ≤ 30 := by
  show (itoa n).length ≤ 30
  have := itoa_length n; omega
theorem plusF_text {a b : V} (h : (plusF a b).1 = 0) : (text (plusF a b).2).length ≤ 30 := by
  unfold plusF at *
  split at h
  · cases h
  · split at h
    · cases h
    · split at h
      · cases h
      · rename_i h1 h2 h3
        rw [if_neg h1, if_neg h2, if_neg h3]
        show (text (sumV a b)).length ≤ 30
        omega
theorem foldIn_text : ∀ (P : List V) (acc : V), (text acc).length ≤ 30 → (foldIn acc P).1 = 0 → (text (foldIn acc P).2).length ≤ 30
  | [], acc, h, _ => h
  | v :: r, acc, h, he => by
    unfold foldIn at *
    split
    · rename_i h1; rw [if_pos h1] at he; exact absurd he h1
    · rename_i h1
      rw [if_neg h1] at he
      exact foldIn_text r _ (plusF_text (by simpa using h1)) he
section
variable {w : World} {s : Nat} {g : Option Nat} {vs : List V} {busy : Bool}
theorem okay_push (hok : Okay vs) (k n : Int) (ls : List UInt8) : Okay (pushF k n ls vs).2 := by
  unfold pushF
  split
  · exact hok
  · rename_i hl
    have hs : (text (vstr ls)).length ≤ 30 := by
      rw [text_str]
      have := itoa_length ls.length
      simp
      omega
    repeat' split
    all_goals first | exact hok | (rename_i h5; exact okay_lay hok (by omega) (text_vint _)) | (rename_i h5; exact okay_lay hok (by omega) hs) | (rename_i h5; exact okay_lay hok (by omega) (by decide))
theorem okay_cons (hok : Okay vs) : Okay (consF vs).2 := by
  unfold consF
  repeat' split
  all_goals first | exact hok | (exact okay_lay hok (by have := hok.1; omega) (by omega))
theorem okay_pair (hok : Okay vs) : Okay (pairF vs).2 := by
  unfold pairF
  repeat' split
  all_goals first | exact hok | (exact okay_lay hok (by have := hok.1; omega) (by omega))
theorem okay_add (hok : Okay vs) : Okay (addF vs).2 := by
  unfold addF
  repeat' split
  all_goals first | exact hok | (rename_i h1 h2; exact okay_lay hok (by have := hok.1; omega) (plusF_text (by simpa using h2)))
theorem okay_neg (h : Stk w s g busy vs) (hok : Okay vs) : Okay (negF vs).2 := by
  unfold negF
  split
  · exact hok
  · rename_i h0
    split
    · refine okay_lay hok (by have := hok.1; omega) ?_
      obtain ⟨a, cap, xs, h⟩ := h
      obtain ⟨x, _, hr⟩ := h.hasTop (by omega)
      have ht := hok.top (by omega)
      unfold negV
      split
      · rename_i hk
        rcases rep_cases hr with ⟨e, _⟩ | ⟨n, e, _⟩ | ⟨s, e, _⟩ | ⟨l, r, b, y, q, e, _⟩ | ⟨l, r, b, y, q, e, _⟩
        · rw [e] at hk; cases hk
        · rw [e] at hk; cases hk
        · rw [e] at hk; cases hk
        · rw [e] at hk; cases hk
        · rw [e] at ht ⊢
          show (text (vpair r l)).length ≤ 30
          rw [text_pair] at *
          simp at *
          omega
      · exact text_vint _
    · exact hok
theorem okay_len (hok : Okay vs) : Okay (lenF vs).2 := by
  unfold lenF
  repeat' split
  all_goals first | exact hok | (exact okay_lay hok (by have := hok.1; omega) (text_vint _))
theorem okay_find (hok : Okay vs) : Okay (findF vs).2 := by
  unfold findF
  repeat' split
  all_goals first | exact hok | (exact okay_lay hok (by have := hok.1; omega) (text_vint _))
theorem top_parts (h : Stk w s g busy vs) (hok : Okay vs) (h0 : vs.length ≠ 0) : ∀ u ∈ parts (top vs), (text u).length ≤ 30 := by
  obtain ⟨a, cap, xs, h⟩ := h
  obtain ⟨x, _, hr⟩ := h.hasTop (by omega)
  exact fun u hu => Nat.le_trans (parts_text hr u hu) (hok.top (by omega))
theorem okay_fold (h : Stk w s g busy vs) (hok : Okay vs) : Okay (foldF vs).2 := by
  by_cases h0 : vs.length = 0
  · unfold foldF; rw [if_pos h0]; exact hok
  · by_cases hc : canIter (top vs) = true
    · rw [foldF_eq h0 hc]
      split
      · exact hok
      · rename_i he
        refine okay_lay hok (by have := hok.1; omega) ?_
        have hp := top_parts h hok h0
        cases hP : parts (top vs) with
        | nil => rw [hP] at he; exact absurd (by decide) he
        | cons v r =>
          rw [hP] at he hp
          exact foldIn_text r v (hp v (by simp)) (by simpa [foldAll] using he)
    · unfold foldF; rw [if_neg h0, if_neg hc]; exact hok
theorem okay_dup (hok : Okay vs) : Okay (dupF vs).2 := by
  unfold dupF
  split
  · exact hok
  · split
    · exact hok
    · exact okay_lay hok (by omega) (hok.top (by omega))
theorem okay_drop (hok : Okay vs) : Okay (dropF vs).2 := by
  unfold dropF
  split
  · exact hok
  · exact okay_take hok
theorem okay_extra (h : Stk w s g busy vs) (hok : Okay vs) (k : Int) : Okay (extraF k vs).2 := by
  unfold extraF
  split
  · unfold doubleF
    repeat' split
    all_goals first | exact hok | (rename_i h1 h2 h3; exact okay_lay hok (by have := hok.1; omega) (plusF_text (by simpa using h3)))
  · split
    · unfold spreadF
      split
      · exact hok
      · rename_i h0
        split
        · split
          · exact hok
          · refine ⟨by simp; omega, fun u hu => ?_⟩
            rcases List.mem_append.1 hu with h1 | h1
            · exact hok.2 u (List.mem_of_mem_take h1)
            · exact top_parts h hok h0 u h1
        · exact hok
    · split
      · unfold echoF
        split
        · exact hok
        · refine ⟨by simp; omega, fun u hu => ?_⟩
          rcases List.mem_append.1 hu with h1 | h1
          · exact hok.2 u (by simpa using h1)
          · exact hok.2 u h1
      · split
        · unfold quotF
          repeat' split
          all_goals first | exact hok | (exact okay_lay hok (by have := hok.1; omega) (text_vint _))
        · exact hok
theorem ite_ok {c : Prop} [Decidable c] {x y : Ans × St} (h1 : Okay x.2) (h2 : Okay y.2) : Okay (if c then x else y).2 := by
  split
  · exact h1
  · exact h2
theorem okay_do (h : Stk w s g busy vs) (hok : Okay vs) (k a b : Int) (S : List UInt8) : Okay (doF k a b S vs).2 := by
  unfold doF
  refine ite_ok (okay_push hok _ _ _) (ite_ok (okay_cons hok) (ite_ok (okay_pair hok) (ite_ok (okay_add hok) (ite_ok (okay_neg h hok) ?_))))
  refine ite_ok (okay_len hok) (ite_ok (okay_find hok) (ite_ok (okay_fold h hok) (ite_ok (okay_dup hok) (ite_ok (okay_drop hok) ?_))))
  exact ite_ok hok (ite_ok (okay_extra h hok _) (ite_ok hok (ite_ok hok (ite_ok hok hok))))

/-- What Extra does at k (for every stack). -/
def ExtraAt (k : Int) : Prop := ∀ {w : World} {s : Nat} {g : Option Nat} {vs : St}, Stk w s g false vs → Okay vs → Calls Try.prog 48 #[.pointer (some ⟨s, 0, none⟩), .int .i64 k] w fun e w' => e = .returned (.int .i64 (extraF k vs).1) ∧ Moved w s g false (extraF k vs).2 w'
theorem extra_at {k : Int} (h3 : k ≠ 3) (h4 : k ≠ 4) : ExtraAt k := by
  intro w s g vs h hok
  by_cases k0 : k = 0
  · subst k0; exact extra_word0 h hok _ fun W hW => double_calls hW hok
  · by_cases k2 : k = 2
    · subst k2; exact extra_word2 h hok _ fun W hW => spread_calls hW hok
    · have he : extraF k vs = (9, vs) := by unfold extraF; rw [if_neg k0, if_neg k2, if_neg h3, if_neg h4]
      rw [he]
      exact extra_none h k (by omega)

theorem do_calls (h : Stk w s g false vs) (hok : Okay vs) (k a b c : Int) (S T : List UInt8) (hb : I64 b) (hx : k = 12 → ExtraAt a) :
    Calls Try.prog 29 #[.pointer (some ⟨s, 0, none⟩), opV k a b c S T] w fun e w' => e = .returned (doF k a b S vs).1.v ∧ Moved w s g false (doF k a b S vs).2 w' := by
  by_cases hk : k < 1 ∨ 15 < k
  · have e : doF k a b S vs = (⟨0, 0, []⟩, vs) := by
      unfold doF
      repeat rw [if_neg (by omega)]
    rw [e]
    exact do_none k a b c S T h hk
  · obtain ⟨n, rfl⟩ : ∃ n : Nat, k = n := ⟨k.toNat, by omega⟩
    have hn : n = 1 ∨ n = 2 ∨ n = 3 ∨ n = 4 ∨ n = 5 ∨ n = 6 ∨ n = 7 ∨ n = 8 ∨ n = 9 ∨ n = 10 ∨ n = 11 ∨ n = 12 ∨ n = 13 ∨ n = 14 ∨ n = 15 := by omega
    rcases hn with rfl | rfl | rfl | rfl | rfl | rfl | rfl | rfl | rfl | rfl | rfl | rfl | rfl | rfl | rfl
    · exact do_push a b c S T h (pushF a b S vs) fun W hW => push_calls a b S (h.below hW) hok hb
    · exact do_word2 h (consF vs) (fun W hW => cons_calls (h.below hW) hok) a b c S T
    · exact do_word3 h (pairF vs) (fun W hW => pair_calls (h.below hW) hok) a b c S T
    · exact do_word4 h (addF vs) (fun W hW => add_calls (h.below hW) hok) a b c S T
    · exact do_word5 h (negF vs) (fun W hW => neg_calls (h.below hW) hok) a b c S T
    · exact do_word6 h (lenF vs) (fun W hW => len_calls (h.below hW) hok) a b c S T
    · exact do_word7 h (findF vs) (fun W hW => find_calls (h.below hW) hok) a b c S T
    · exact do_word8 h (foldF vs) (fun W hW => fold_calls (h.below hW) hok) a b c S T
    · exact do_word9 h (dupF vs) (fun W hW => dup_calls (h.below hW) hok) a b c S T
    · exact do_word10 h (dropF vs) (fun W hW => drop_calls (h.below hW) hok) a b c S T
    · exact do_topInt a b c S T h hok
    · exact do_extra a b c S T h (extraF a vs) fun W hW => hx rfl (h.below hW) hok
    · exact do_depth a b c S T h hok
    · exact do_show a b c S T h hok
    · exact do_check a b c S T h hok
end
end Go.Proofs.Qxb6500606a
