/-
  Keeps: KindOf, Can; texts and kinds.
-/
import Derived.Test.Qxb6500606aKNum
namespace Go.Proofs.Qxb6500606a
open Go.ChangeShapes Go.WideShapes Go.ChangeAt Go.RowKit
attribute [local go_sem] str_size str_app str_app1 str_1app str_toList str_get
set_option linter.unusedVariables false

/-- Values as the program makes them. -/
def Wf : V → Prop
  | .nil => True
  | .node t o a l r => o = 0 ∧ ((t = 1 ∧ a.2 = [] ∧ l = .nil ∧ r = .nil ∧ I64 a.1) ∨ (t = 2 ∧ a.1 = 0 ∧ l = .nil ∧ r = .nil) ∨ (t = 3 ∧ a = (0, []) ∧ isL r = true ∧ Wf l ∧ Wf r) ∨ (t = 4 ∧ a = (0, []) ∧ Wf l ∧ Wf r))
theorem wf_of_rep {w : World} : ∀ {v : V} {x : Value}, Rep w v x → Wf v := by
  intro v
  induction v with
  | nil => intro x _; trivial
  | node t o a l r ihl ihr =>
    intro x h
    rcases rep_cases h with ⟨e, _⟩ | ⟨n, e, hn, _⟩ | ⟨s, e, _⟩ | ⟨l1, r1, b, y, q, e, hL, _, _, h1, h2⟩ | ⟨l1, r1, b, y, q, e, _, _, h1, h2⟩
    · cases e
    · cases e; exact ⟨rfl, .inl ⟨rfl, rfl, rfl, rfl, hn⟩⟩
    · cases e; exact ⟨rfl, .inr (.inl ⟨rfl, rfl, rfl, rfl⟩)⟩
    · cases e; exact ⟨rfl, .inr (.inr (.inl ⟨rfl, rfl, hL, ihl h1, ihr h2⟩))⟩
    · cases e; exact ⟨rfl, .inr (.inr (.inr ⟨rfl, rfl, ihl h1, ihr h2⟩))⟩
theorem wf_cases {v : V} (h : Wf v) : v = .nil ∨ (∃ n, v = vint n ∧ I64 n) ∨ (∃ s, v = vstr s) ∨ (∃ l r, v = vcons l r ∧ isL r = true ∧ Wf l ∧ Wf r) ∨ (∃ l r, v = vpair l r ∧ Wf l ∧ Wf r) := by
  cases v with
  | nil => exact .inl rfl
  | node t o a l r =>
    obtain ⟨rfl, h⟩ := h
    obtain ⟨a1, a2⟩ := a
    rcases h with ⟨rfl, h1, rfl, rfl, h2⟩ | ⟨rfl, h1, rfl, rfl⟩ | ⟨rfl, h1, h2, h3, h4⟩ | ⟨rfl, h1, h2, h3⟩
    · simp at h1; subst h1; exact .inr (.inl ⟨a1, rfl, h2⟩)
    · simp at h1; subst h1; exact .inr (.inr (.inl ⟨a2, rfl⟩))
    · cases h1; exact .inr (.inr (.inr (.inl ⟨l, r, rfl, h2, h3, h4⟩)))
    · cases h1; exact .inr (.inr (.inr (.inr ⟨l, r, rfl, h2, h3⟩)))

theorem itoa_dig (n : Int) (h : I64 n) : (∀ c ∈ itoa n, isDig c = true) ∧ itoa n ≠ [] := by
  obtain ⟨ds, hd, hne, _, he⟩ := itoa_split n h
  rw [he]
  refine ⟨fun c hc => ?_, by simp [hne]⟩
  rcases List.mem_append.1 hc with h1 | h1
  · split at h1
    · simp at h1; subst h1; decide
    · cases h1
  · exact (isDig_iff c).2 (.inr (by have := hd c h1; omega))
theorem nat_i64 {n : Nat} (h : n ≤ 100000) : I64 n := by constructor <;> omega
/-- Stop behind digits. -/
theorem stopF_digs : ∀ (l pre post : List UInt8), (∀ c ∈ l, isDig c = true) → (∀ c, post.head? = some c → isDig c = false) → stopF (pre ++ (l ++ post)) pre.length = pre.length + l.length := by
  intro l pre post hl hp
  unfold stopF
  rw [List.drop_left]
  congr 1
  induction l with
  | nil =>
    cases post with
    | nil => rfl
    | cons c r => have := hp c rfl; simp [this]
  | cons c l ih =>
    have := hl c (by simp)
    simp [this]
    exact ih (fun c hc => hl c (by simp [hc]))

def kindF (t : List UInt8) : Nat := match t with
  | [] => 0
  | c :: _ => if c = 91 then 3 else if c = 60 then 4 else if stopF t 0 < t.length then 2 else 1
theorem kindF_eq {t : List UInt8} (h : 0 < t.length) : kindF t = if t[0] = 91 then 3 else if t[0] = 60 then 4 else if stopF t 0 < t.length then 2 else 1 := by
  cases t with
  | nil => simp at h
  | cons c r => rfl
set_option maxHeartbeats 400000 in
theorem kindOf_calls (t : List UInt8) (hl : t.length ≤ 100000) (w : World) :
    Calls Try.prog 63 #[.string (str t)] w fun e w' => e = .returned (.int .i64 (kindF t)) ∧ w' = w := by
  by_cases hnil : t = []
  · subst hnil
    go_enter Try.func63, Try.ntmps63
    go_wp2
    go_ret
    exact ⟨rfl, rfl⟩
  · have hpos : 0 < t.length := List.length_pos_iff.2 hnil
    have hst := hide (stop_calls t 0 (Nat.zero_le _) hl w)
    have hne : (t == []) = false := by simpa using hnil
    have hk := kindF_eq hpos
    obtain ⟨c, h0⟩ : ∃ c, t[0] = c := ⟨_, rfl⟩
    rw [h0] at hk
    clear hnil
    by_cases h91 : c = 91
    · rw [if_pos h91] at hk
      have HK := hide hk
      have hc : c.toNat = 91 := by rw [h91]; rfl
      clear hk h91
      go_enter Try.func63, Try.ntmps63
      go_wp2
      go_ret
      exact ⟨by rw [HK.out] <;> rfl, rfl⟩
    · have hc : ((c.toNat : Int) == 91) = false := by
        have : c.toNat ≠ 91 := fun e => h91 (UInt8.toNat_inj.1 e)
        simp; omega
      rw [if_neg h91] at hk
      clear h91
      by_cases h60 : c = 60
      · rw [if_pos h60] at hk
        have HK := hide hk
        have hc2 : c.toNat = 60 := by rw [h60]; rfl
        clear hk h60
        go_enter Try.func63, Try.ntmps63
        go_wp2
        go_ret
        exact ⟨by rw [HK.out] <;> rfl, rfl⟩
      · have hc2 : ((c.toNat : Int) == 60) = false := by
          have : c.toNat ≠ 60 := fun e => h60 (UInt8.toNat_inj.1 e)
          simp; omega
        rw [if_neg h60] at hk
        clear h60
        by_cases hs : stopF t 0 < t.length
        · rw [if_pos hs] at hk
          have HK := hide hk
          have hd : decide ((stopF t 0 : Int) < t.length) = true := decide_eq_true (by omega)
          clear hk
          go_enter Try.func63, Try.ntmps63
          go_wp2_with (go_at_call 67; refine hst.out.mono ?_; rintro e w' ⟨rfl, hw⟩; subst hw)
          go_ret
          exact ⟨by rw [HK.out] <;> rfl, rfl⟩
        · rw [if_neg hs] at hk
          have HK := hide hk
          have hd : decide ((stopF t 0 : Int) < t.length) = false := decide_eq_false (by omega)
          clear hk
          go_enter Try.func63, Try.ntmps63
          go_wp2_with (go_at_call 67; refine hst.out.mono ?_; rintro e w' ⟨rfl, hw⟩; subst hw)
          go_ret
          exact ⟨by rw [HK.out] <;> rfl, rfl⟩

def canT (k c : Nat) : Bool := if k = 1 then c == 1 || c == 2 else if k = 2 then c == 1 || c == 3 else if k = 3 then c != 2 else if k = 4 then c != 1 else false
theorem can_calls (t : List UInt8) (hl : t.length ≤ 100000) (c : Nat) (hc : c = 1 ∨ c = 2 ∨ c = 3 ∨ c = 4) (hk : kindF t = 0 ∨ kindF t = 1 ∨ kindF t = 2 ∨ kindF t = 3 ∨ kindF t = 4) (w : World) :
    Calls Try.prog 65 #[.string (str t), .int .i64 c] w fun e w' => e = .returned (.bool (canT (kindF t) c)) ∧ w' = w := by
  have hko := kindOf_calls t hl w
  rcases hk with e | e | e | e | e <;> rw [e] at hko ⊢ <;> (have hko := hide hko; clear e; rcases hc with rfl | rfl | rfl | rfl)
  all_goals
    go_enter Try.func65, Try.ntmps65
    go_wp2_with (go_at_call 63; refine hko.out.mono ?_; rintro e w' ⟨rfl, hw⟩; subst hw)
    go_ret
    exact ⟨rfl, rfl⟩

theorem dig_ne {c : UInt8} (h : isDig c = true) : c ≠ 91 ∧ c ≠ 60 ∧ c ≠ 32 ∧ c ≠ 93 ∧ c ≠ 62 ∧ c ≠ 58 := by
  refine ⟨?_, ?_, ?_, ?_, ?_, ?_⟩ <;> (rintro rfl; revert h; decide)
theorem itoa_cons (n : Int) (h : I64 n) : ∃ c r, itoa n = c :: r ∧ isDig c = true := by
  obtain ⟨h1, h2⟩ := itoa_dig n h
  cases hi : itoa n with
  | nil => exact absurd hi h2
  | cons c r => exact ⟨c, r, rfl, h1 c (by rw [hi]; simp)⟩
/-- A value's text opens with what opens a value. -/
theorem text_head {v : V} (h : Wf v) (hl : (text v).length ≤ 100000) : ∃ c r, text v = c :: r ∧ c ≠ 32 ∧ c ≠ 93 ∧ c ≠ 62 := by
  rcases wf_cases h with rfl | ⟨n, rfl, hn⟩ | ⟨s, rfl⟩ | ⟨l, r, rfl, hL, _⟩ | ⟨l, r, rfl, _⟩
  · exact ⟨91, _, rfl, by decide⟩
  · obtain ⟨c, r, h1, h2⟩ := itoa_cons n hn
    obtain ⟨_, _, h3, h4, h5, _⟩ := dig_ne h2
    exact ⟨c, r, h1, h3, h4, h5⟩
  · rw [text_str] at *
    simp at hl
    obtain ⟨c, r, h1, h2⟩ := itoa_cons s.length (nat_i64 (by omega))
    obtain ⟨_, _, h3, h4, h5, _⟩ := dig_ne h2
    exact ⟨c, _, by rw [h1]; rfl, h3, h4, h5⟩
  · exact ⟨91, _, rfl, by decide⟩
  · exact ⟨60, _, rfl, by decide⟩
/-- The kind of a value's text is the value's kind. -/
theorem kind_text {v : V} (h : Wf v) (hl : (text v).length ≤ 100000) : kindF (text v) = kind v := by
  rcases wf_cases h with rfl | ⟨n, rfl, hn⟩ | ⟨s, rfl⟩ | ⟨l, r, rfl, hL, _⟩ | ⟨l, r, rfl, _⟩
  · rfl
  · obtain ⟨c, r, h1, h2⟩ := itoa_cons n hn
    obtain ⟨h3, h4, _⟩ := dig_ne h2
    have hs := stopF_digs (itoa n) [] [] (itoa_dig n hn).1 (by simp)
    simp at hs
    show kindF (itoa n) = 1
    unfold kindF
    rw [h1] at hs ⊢
    simp only [h3, h4, if_false]
    rw [if_neg (by rw [hs]; simp)]
  · rw [text_str] at *
    simp at hl
    have hn : I64 s.length := nat_i64 (by omega)
    obtain ⟨c, r, h1, h2⟩ := itoa_cons s.length hn
    obtain ⟨h3, h4, _⟩ := dig_ne h2
    have hs := stopF_digs (itoa s.length) [] (58 :: s) (itoa_dig _ hn).1 (by intro c hc; simp at hc; subst hc; decide)
    simp at hs
    show kindF (itoa s.length ++ 58 :: s) = 2
    unfold kindF
    rw [h1] at hs ⊢
    simp only [List.cons_append, h3, h4, if_false]
    rw [List.cons_append] at hs
    rw [if_pos (by rw [hs]; simp)]
  · rfl
  · rfl
end Go.Proofs.Qxb6500606a
