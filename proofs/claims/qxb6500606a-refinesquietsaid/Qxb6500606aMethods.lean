/-
  The kinds' Neg and Len; the words Neg and Len.
-/
import Derived.Test.Qxb6500606aCareful3
namespace Go.Proofs.Qxb6500606a
open Go.ChangeShapes Go.WideShapes Go.ChangeAt Go.RowKit
attribute [local go_sem] str_size str_app str_app1 str_1app str_toList
set_option linter.unusedVariables false

theorem inv_neg_int (n : Int) (w : World) : (invoke (.fn (.method "Neg") #[]) #[.iface 82 (.int .i64 n)]).run Try.prog w = .ok (.enter 107 #[.int .i64 n]) w := by kernel_rfl
theorem inv_neg_pair (p : Option Addr) (w : World) : (invoke (.fn (.method "Neg") #[]) #[.iface 90 (.pointer p)]).run Try.prog w = .ok (.enter 119 #[.pointer p]) w := by kernel_rfl
theorem inv_len_str (s : ByteArray) (w : World) : (invoke (.fn (.method "Len") #[]) #[.iface 83 (.string s)]).run Try.prog w = .ok (.enter 110 #[.string s]) w := by kernel_rfl
theorem inv_len_list (p : Option Addr) (w : World) : (invoke (.fn (.method "Len") #[]) #[.iface 84 (.pointer p)]).run Try.prog w = .ok (.enter 114 #[.pointer p]) w := by kernel_rfl
theorem inv_len_pair (p : Option Addr) (w : World) : (invoke (.fn (.method "Len") #[]) #[.iface 90 (.pointer p)]).run Try.prog w = .ok (.enter 118 #[.pointer p]) w := by kernel_rfl

theorem neg_int (n : Int) (w : World) : Calls Try.prog 107 #[.int .i64 n] w fun e w' => e = .returned (.iface 82 (.int .i64 (wr (0 - n)))) ∧ w' = w := by
  go_enter Try.func107, Try.ntmps107
  go_wp2
  go_ret
  exact ⟨by rw [← wr_eq]; simp, rfl⟩

theorem neg_pair {w : World} {b : Nat} {x y : Value} {T U : TypeId} (hb : w.heap[b]? = some (.cells #[.iface T x, .iface U y] 92)) :
    Calls Try.prog 119 #[.pointer (some ⟨b, 0, none⟩)] w fun e w' => e = .returned (.iface 90 (.pointer (some ⟨w.heap.size, 0, none⟩))) ∧ w' = w.alloc (.cells #[.iface U y, .iface T x] 92) := by
  have hlt := lt_of_heap hb
  have c0 : w.cell? ⟨b, 0, none⟩ = some (.iface T x) := by simp [World.cell?, hb]
  have c1 : w.cell? ⟨b, 1, none⟩ = some (.iface U y) := by simp [World.cell?, hb]
  clear hb
  go_enter Try.func119, Try.ntmps119
  go_wp2
  go_ret
  exact ⟨rfl, rfl⟩

theorem len_str (s : List UInt8) (w : World) : Calls Try.prog 110 #[.string (str s)] w fun e w' => e = .returned (.int .i64 s.length) ∧ w' = w := by
  go_enter Try.func110, Try.ntmps110
  go_wp2
  go_ret
  exact ⟨rfl, rfl⟩
theorem len_pair (p : Option Addr) (w : World) : Calls Try.prog 118 #[.pointer p] w fun e w' => e = .returned (.int .i64 2) ∧ w' = w := by
  go_enter Try.func118, Try.ntmps118
  go_wp2
  go_ret
  exact ⟨rfl, rfl⟩
set_option maxHeartbeats 400000 in
theorem len_list {w : World} (v : V) (p : Option Addr) (hv : Rep w v (.iface 84 (.pointer p))) (hs : (elems v).length ≤ 1000) :
    Calls Try.prog 114 #[.pointer p] w fun e w' => e = .returned (.int .i64 (elems v).length) ∧ w' = w := by
  go_enter Try.func114, Try.ntmps114
  go_wp2
  go_loopg [3, 4] (size v) (fun k n c wr => ∃ (rest : V) (q : Option Addr) (m : Nat), c = .pointer q ∧ n = .int .i64 m ∧ Rep w rest (.iface 84 (.pointer q)) ∧ k = size rest ∧ wr = w ∧ m + (elems rest).length = (elems v).length)
  case atStart => exact ⟨v, p, 0, rfl, rfl, hv, rfl, rfl, by omega⟩
  case round =>
    obtain ⟨rest, q, m, rfl, rfl, hrep, hk, rfl, hm⟩ := hrel
    cases q with
    | none =>
      have hn := rep_list_none hrep
      have HE : Hid (m = (elems v).length) := hide (by subst hn; simpa [elems] using hm)
      clear hm hn
      go_wp2
      go_ret
      exact ⟨by rw [← HE.out]; rfl, rfl⟩
    | some q =>
      obtain ⟨l, r, b, y, q', rfl, hLr', rfl, hbk, hl, hr⟩ := rep_list_some hrep
      have c1 : wr.cell? ⟨b, 1, none⟩ = some (.pointer q') := by simp [World.cell?, hbk]
      rw [elems_cons] at hm
      have hmb : m + 1 + (elems r).length = (elems v).length := by simp at hm; omega
      have HM := hide hmb
      have hml : m ≤ 1000 := by omega
      clear hm hmb hbk hrep hl
      go_wp2
      go_roundg (size r)
      case measure => rw [hk]; simp [size]; omega
      case rel => exact ⟨r, q', m + 1, rfl, by go_num, hr, rfl, rfl, HM.out⟩

/-- x's Neg, called through the interface: the value v'. -/
def NegsAt (w : World) (x : Value) (v' : V) : Prop := ∃ f args, (invoke (.fn (.method "Neg") #[]) #[x]).run Try.prog w = .ok (.enter f args) w ∧
  Calls Try.prog f args w fun e w' => ∃ x', e = .returned x' ∧ Rep w' v' x' ∧ Below w.heap.size w w'
def LensAt (w : World) (x : Value) (n : Nat) : Prop := ∃ f args, (invoke (.fn (.method "Len") #[]) #[x]).run Try.prog w = .ok (.enter f args) w ∧
  Calls Try.prog f args w fun e w' => e = .returned (.int .i64 n) ∧ w' = w

theorem negs {w : World} {v : V} {x : Value} (h : Rep w v x) (hc : canNeg v = true) : NegsAt w x (negV v) := by
  rcases rep_cases h with ⟨rfl, rfl⟩ | ⟨n, rfl, hn, rfl⟩ | ⟨s, rfl, rfl⟩ | ⟨l, r, b, y, q, rfl, _, rfl, _⟩ | ⟨l, r, b, y, q, rfl, rfl, hb, h1, h2⟩
  · simp [canNeg, kind] at hc
  · exact ⟨_, _, inv_neg_int _ _, (neg_int n w).mono (by rintro e w' ⟨rfl, rfl⟩; exact ⟨_, rfl, rep_int (wr_i64 _), Below.refl _ _⟩)⟩
  · simp [canNeg, kind] at hc
  · simp [canNeg, kind] at hc
  · obtain ⟨T, x, rfl⟩ := h1.iface
    obtain ⟨U, y, rfl⟩ := h2.iface
    have hB : Below w.heap.size w (w.alloc (.cells #[.iface U y, .iface T x] 92)) := (Below.refl _ _).alloc (Nat.le_refl _) _
    exact ⟨_, _, inv_neg_pair _ _, (neg_pair hb).mono (by rintro e w' ⟨rfl, rfl⟩; exact ⟨_, rfl, rep_pair (heap_alloc_new w _) (h2.below hB) (h1.below hB), hB⟩)⟩
theorem lens {w : World} {v : V} {x : Value} (h : Rep w v x) (hc : canLen v = true) (hs : (elems v).length ≤ 1000) : LensAt w x (lenV v) := by
  rcases rep_cases h with ⟨rfl, rfl⟩ | ⟨n, rfl, hn, rfl⟩ | ⟨s, rfl, rfl⟩ | ⟨l, r, b, y, q, rfl, _, rfl, _⟩ | ⟨l, r, b, y, q, rfl, rfl, hb, h1, h2⟩
  · exact ⟨_, _, inv_len_list _ _, len_list _ _ h hs⟩
  · simp [canLen, kind] at hc
  · exact ⟨_, _, inv_len_str _ _, len_str s w⟩
  · exact ⟨_, _, inv_len_list _ _, len_list _ _ h hs⟩
  · exact ⟨_, _, inv_len_pair _ _, len_pair _ w⟩
theorem elems_len {w : World} : ∀ {v : V} {p : Option Addr}, Rep w v (.iface 84 (.pointer p)) → (elems v).length ≤ (inner v).length + 1 := by
  intro v
  induction v with
  | nil => intro p _; simp [elems]
  | node t o a l r ihl ihr =>
    intro p h
    cases p with
    | none => exact absurd (rep_list_none h) (by simp)
    | some p =>
      obtain ⟨l1, r1, b, y, q, hv, hL, _, hb, h1, h2⟩ := rep_list_some h
      cases hv
      have := ihr h2
      rw [elems_cons, inner_cons]
      cases r with
      | nil => simp [elems]
      | node => simp [sepInner]; omega
theorem elems_le {w : World} {v : V} {x : Value} (h : Rep w v x) (hs : (text v).length ≤ 900) : (elems v).length ≤ 1000 := by
  rcases rep_cases h with ⟨rfl, rfl⟩ | ⟨n, rfl, hn, rfl⟩ | ⟨s, rfl, rfl⟩ | ⟨l, r, b, y, q, rfl, hL, rfl, _⟩ | ⟨l, r, b, y, q, rfl, rfl, hb, h1, h2⟩
  · simp [elems]
  · simp [elems]
  · simp [elems]
  · have := elems_len h
    rw [text_list _ rfl] at hs
    simp at hs
    omega
  · simp [elems]

section
variable {w : World} {s : Nat} {g : Option Nat} {vs : List V}

set_option maxHeartbeats 400000 in
theorem neg_calls (h : Stk w s g false vs) (hok : Okay vs) :
    Calls Try.prog 41 #[.pointer (some ⟨s, 0, none⟩)] w fun e w' => e = .returned (.int .i64 (negF vs).1) ∧ Moved w s g false (negF vs).2 w' := by
  have hS := h
  obtain ⟨a, cap, xs, h⟩ := h
  have hn5 := hok.1
  by_cases h0 : vs.length = 0
  · have H : Hid (negF vs = (4, vs)) := by unfold negF; rw [if_pos h0]; exact rfl
    have hpk := hide (peek0_out h hn5 h0)
    have hlk := lack1 h hn5
    rw [if_pos h0] at hlk
    have hlk := hide hlk
    have hta := as_neg_nil
    clear h
    go_enter Try.func41, Try.ntmps41
    go_wp2_with (first | (go_at_call 73; refine hpk.out.mono ?_; rintro e w' ⟨rfl, rfl⟩) | (go_at_call 75; refine hlk.out.mono ?_; rintro e w' ⟨rfl, rfl⟩))
    go_ret
    exact ⟨by rw [H.out]; rfl, by rw [H.out]; exact Moved.same hS⟩
  · obtain ⟨x, hx, hr⟩ := h.hasTop (by omega)
    have hpk := hide (peek0 h hn5 x (by omega) hx)
    have hta := as_neg hr
    by_cases hc : canNeg (top vs) = true
    · have H : Hid (negF vs = lay 1 (negV (top vs)) vs) := by unfold negF; rw [if_neg h0, if_pos hc]; exact rfl
      rw [hc] at hta
      simp only [if_true] at hta
      obtain ⟨f, args, hinv, hcl⟩ := negs hr hc
      have hcl := hide hcl
      have hsw : Hid (∀ w1 x', Below w.heap.size w w1 → Rep w1 (negV (top vs)) x' → Calls Try.prog 72 #[.pointer (some ⟨s, 0, none⟩), .int .i64 1, x'] w1 fun e w' => e = .returned (.tuple #[]) ∧ Moved w s g false (lay 1 (negV (top vs)) vs).2 w') :=
        fun w1 x' hb1 hr1 => (swap1 (h.below hb1) hn5 (by omega) hr1).mono (by rintro e w' ⟨rfl, hm⟩; exact ⟨rfl, .after hb1 hm⟩)
      clear h hr hx hc
      go_enter Try.func41, Try.ntmps41
      go_wp2_with (first | (go_at_call 73; refine hpk.out.mono ?_; rintro e w' ⟨rfl, rfl⟩) | (refine wpList_invoke rfl _ "Neg" _ rfl x rfl _ _ hinv _ hcl.out ?_; rintro e w1 ⟨x1, rfl, hr1, hb1⟩; refine ⟨_, rfl, ?_⟩) | (go_at_call 72; refine (hsw.out _ _ hb1 hr1).mono ?_; rintro e w2 ⟨rfl, hm⟩))
      go_ret
      exact ⟨by rw [H.out]; rfl, by rw [H.out]; exact hm⟩
    · have hcf : canNeg (top vs) = false := by simpa using hc
      have H : Hid (negF vs = (5, vs)) := by unfold negF; rw [if_neg h0, if_neg hc]; exact rfl
      rw [hcf] at hta
      simp only [Bool.false_eq_true, if_false] at hta
      have hlk := lack1 h hn5
      rw [if_neg h0] at hlk
      have hlk := hide hlk
      clear h hr hx hc hcf
      go_enter Try.func41, Try.ntmps41
      go_wp2_with (first | (go_at_call 73; refine hpk.out.mono ?_; rintro e w' ⟨rfl, rfl⟩) | (go_at_call 75; refine hlk.out.mono ?_; rintro e w' ⟨rfl, rfl⟩))
      go_ret
      exact ⟨by rw [H.out]; rfl, by rw [H.out]; exact Moved.same hS⟩

set_option maxHeartbeats 400000 in
theorem len_calls (h : Stk w s g false vs) (hok : Okay vs) :
    Calls Try.prog 42 #[.pointer (some ⟨s, 0, none⟩)] w fun e w' => e = .returned (.int .i64 (lenF vs).1) ∧ Moved w s g false (lenF vs).2 w' := by
  have hS := h
  obtain ⟨a, cap, xs, h⟩ := h
  have hn5 := hok.1
  by_cases h0 : vs.length = 0
  · have H : Hid (lenF vs = (4, vs)) := by unfold lenF; rw [if_pos h0]; exact rfl
    have hpk := hide (peek0_out h hn5 h0)
    have hlk := lack1 h hn5
    rw [if_pos h0] at hlk
    have hlk := hide hlk
    have hta := as_len_nil
    clear h
    go_enter Try.func42, Try.ntmps42
    go_wp2_with (first | (go_at_call 73; refine hpk.out.mono ?_; rintro e w' ⟨rfl, rfl⟩) | (go_at_call 75; refine hlk.out.mono ?_; rintro e w' ⟨rfl, rfl⟩))
    go_ret
    exact ⟨by rw [H.out]; rfl, by rw [H.out]; exact Moved.same hS⟩
  · obtain ⟨x, hx, hr⟩ := h.hasTop (by omega)
    have hpk := hide (peek0 h hn5 x (by omega) hx)
    have hta := as_len hr
    have ht := hok.top (by omega)
    by_cases hc : canLen (top vs) = true
    · have H : Hid (lenF vs = lay 1 (vint (lenV (top vs))) vs) := by unfold lenF; rw [if_neg h0, if_pos hc]; exact rfl
      rw [hc] at hta
      simp only [if_true] at hta
      have hel := elems_le hr (by omega)
      obtain ⟨f, args, hinv, hcl⟩ := lens hr hc hel
      have hcl := hide hcl
      have hi : I64 (lenV (top vs)) := by
        have h1 : (bytes (top vs)).length ≤ 30 := by
          rcases rep_cases hr with ⟨h, _⟩ | ⟨n, h, _⟩ | ⟨s, h, _⟩ | ⟨l, r, b, y, q, h, _⟩ | ⟨l, r, b, y, q, h, _⟩ <;> rw [h] at ht ⊢ <;> simp [bytes]
          rw [text_str] at ht; simp at ht; omega
        unfold lenV
        constructor <;> (split <;> (try split)) <;> omega
      have hsw := hide (swap1 h hn5 (by omega) (rep_int (w := w) hi))
      clear h hr hx hc hel
      go_enter Try.func42, Try.ntmps42
      go_wp2_with (first | (go_at_call 73; refine hpk.out.mono ?_; rintro e w' ⟨rfl, rfl⟩) | (refine wpList_invoke rfl _ "Len" _ rfl x rfl _ _ hinv _ hcl.out ?_; rintro e w1 ⟨rfl, rfl⟩; refine ⟨_, rfl, ?_⟩) | (go_at_call 72; refine hsw.out.mono ?_; rintro e w2 ⟨rfl, hm⟩))
      go_ret
      exact ⟨by rw [H.out]; rfl, by rw [H.out]; exact hm⟩
    · have hcf : canLen (top vs) = false := by simpa using hc
      have H : Hid (lenF vs = (5, vs)) := by unfold lenF; rw [if_neg h0, if_neg hc]; exact rfl
      rw [hcf] at hta
      simp only [Bool.false_eq_true, if_false] at hta
      have hlk := lack1 h hn5
      rw [if_neg h0] at hlk
      have hlk := hide hlk
      clear h hr hx hc hcf
      go_enter Try.func42, Try.ntmps42
      go_wp2_with (first | (go_at_call 73; refine hpk.out.mono ?_; rintro e w' ⟨rfl, rfl⟩) | (go_at_call 75; refine hlk.out.mono ?_; rintro e w' ⟨rfl, rfl⟩))
      go_ret
      exact ⟨by rw [H.out]; rfl, by rw [H.out]; exact Moved.same hS⟩
end
end Go.Proofs.Qxb6500606a
