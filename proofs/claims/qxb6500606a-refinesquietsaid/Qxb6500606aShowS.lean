/-
  The stack's Show; sound; Check.
-/
import Derived.Test.Qxb6500606aMethods
namespace Go.Proofs.Qxb6500606a
open Go.ChangeShapes Go.WideShapes Go.ChangeAt Go.RowKit
attribute [local go_sem] str_size str_app str_app1 str_1app str_toList
set_option linter.unusedVariables false

theorem showAll_snoc : ∀ (vs : List V) (v : V), showAll (vs ++ [v]) = showAll vs ++ 32 :: text v
  | [], v => by simp [showAll]
  | u :: vs, v => by simp [showAll, showAll_snoc vs v]
theorem showAll_length : ∀ (vs : List V), (∀ v ∈ vs, (text v).length ≤ 30) → (showAll vs).length ≤ 31 * vs.length
  | [], _ => by simp [showAll]
  | u :: vs, h => by
    have h1 := h u (by simp)
    have h2 := showAll_length vs fun v hv => h v (by simp [hv])
    simp [showAll]; omega

section
variable {w : World} {s : Nat} {g : Option Nat} {busy : Bool} {vs : List V}

set_option maxHeartbeats 1000000 in
theorem stackShow_calls (h : Stk w s g busy vs) (hok : Okay vs) :
    Calls Try.prog 25 #[.pointer (some ⟨s, 0, none⟩)] w fun e w' => e = .returned (.string (str (showF vs))) ∧ Below w.heap.size w w' := by
  obtain ⟨a, cap, xs, h⟩ := h
  have c0 := h.c0
  have hn5 := hok.1
  have hit := itoa_length vs.length
  have HC : Hid (∀ w1, Below w.heap.size w w1 → w1.cell? ⟨s, 0, none⟩ = some (.slice a vs.length cap)) := fun w1 hb => (h.below hb).c0
  have HH := hide h
  clear h
  generalize hvn : vs.length = n at *
  have HN := hide hvn
  clear hvn
  go_enter Try.func25, Try.ntmps25
  go_wp2_with (go_at_call 33; refine (itoa_calls _ _ (by constructor <;> omega)).mono ?_; rintro e w1 ⟨rfl, hb1⟩; have c01 := HC.out w1 hb1)
  go_loopw [3, 18] (fun t i wr => ∃ k : Nat, k ≤ n ∧ i = .int .i64 k ∧ t = .string (str (itoa n ++ showAll (vs.take k))) ∧ Below w.heap.size w wr) (fun _ i _ => n - (intOf i).toNat)
  case atStart => exact ⟨0, by omega, rfl, by simp [showAll], hb1⟩
  case round =>
    obtain ⟨k, hk, rfl, rfl, hb⟩ := hrel
    by_cases hlt : k < n
    · obtain ⟨b, rfl, _, hcell⟩ := HH.out.opened (by rw [HN.out]; omega)
      have hstk := HH.out.below hb
      obtain ⟨x, hx, hr⟩ := hstk.at k (by rw [HN.out]; exact hlt)
      obtain ⟨b', hb', _, hcell'⟩ := hstk.opened (by rw [HN.out]; omega)
      cases hb'
      have hc := hcell' k x hx
      have hkv : k < vs.length := by rw [HN.out]; exact hlt
      have hmem : vs[k] ∈ vs := List.getElem_mem hkv
      have htx := hok.2 _ hmem
      have hsh := hide (shows hr (by omega))
      have hal : (showAll (vs.take k)).length ≤ 31 * 5 := by
        have := showAll_length (vs.take k) fun v hv => hok.2 v (List.mem_of_mem_take hv)
        simp at this; omega
      have HT : Hid (showAll (vs.take (k + 1)) = showAll (vs.take k) ++ 32 :: text vs[k]) := hide (by
        rw [List.take_succ_eq_append_getElem hkv, showAll_snoc])
      clear hcell hcell' hx hr hstk hmem
      generalize vs[k] = v at *
      go_wp2_with (refine wpList_show rfl _ _ rfl x rfl _ hsh.out ?_; intro w2 hb2)
      go_roundw
      case rel => exact ⟨k + 1, by omega, by go_num, by rw [HT.out], hb.trans (hb2.mono hb.size)⟩
      case measure => simp [intOf]; omega
    · have HK : Hid (k = n) := hide (by omega)
      go_wp2
      go_ret
      refine ⟨?_, hb⟩
      have : vs.take k = vs := List.take_of_length_le (Nat.le_of_eq (by rw [HN.out, HK.out]))
      rw [this]
      show _ = Ending.returned (.string (str (itoa vs.length ++ showAll vs)))
      rw [HN.out]
      rfl
end

/-- A value that stands for something is sound. -/
def SoundsAt (w : World) (x : Value) : Prop := Calls Try.prog 69 #[x] w fun e w' => e = .returned (.bool true) ∧ w' = w
theorem as_str_int (n : Int) (W : World) : (Instr.typeAssert (.iface 82 (.int .i64 n)) 60 82 true).run Try.prog W = .ok (.tuple #[.int .i64 n, .bool true]) W := by kernel_rfl
theorem as3_str (s : ByteArray) (W : World) : (Instr.typeAssert (.iface 83 (.string s)) 60 82 true).run Try.prog W = .ok (.tuple #[.int .i64 0, .bool false]) W := by kernel_rfl
theorem as3_str2 (s : ByteArray) (W : World) : (Instr.typeAssert (.iface 83 (.string s)) 60 83 true).run Try.prog W = .ok (.tuple #[.string s, .bool true]) W := by kernel_rfl
theorem as3_pair (p : Option Addr) (W : World) : (Instr.typeAssert (.iface 90 (.pointer p)) 60 82 true).run Try.prog W = .ok (.tuple #[.int .i64 0, .bool false]) W := by kernel_rfl
theorem as3_pair2 (p : Option Addr) (W : World) : (Instr.typeAssert (.iface 90 (.pointer p)) 60 83 true).run Try.prog W = .ok (.tuple #[.string ByteArray.empty, .bool false]) W := by kernel_rfl
theorem as3_pair3 (p : Option Addr) (W : World) : (Instr.typeAssert (.iface 90 (.pointer p)) 60 90 true).run Try.prog W = .ok (.tuple #[.pointer p, .bool true]) W := by kernel_rfl
theorem as3_list (p : Option Addr) (W : World) : (Instr.typeAssert (.iface 84 (.pointer p)) 60 82 true).run Try.prog W = .ok (.tuple #[.int .i64 0, .bool false]) W := by kernel_rfl
theorem as3_list2 (p : Option Addr) (W : World) : (Instr.typeAssert (.iface 84 (.pointer p)) 60 83 true).run Try.prog W = .ok (.tuple #[.string ByteArray.empty, .bool false]) W := by kernel_rfl
theorem as3_list3 (p : Option Addr) (W : World) : (Instr.typeAssert (.iface 84 (.pointer p)) 60 90 true).run Try.prog W = .ok (.tuple #[.pointer none, .bool false]) W := by kernel_rfl
theorem as3_list4 (p : Option Addr) (W : World) : (Instr.typeAssert (.iface 84 (.pointer p)) 60 84 true).run Try.prog W = .ok (.tuple #[.pointer p, .bool true]) W := by kernel_rfl

theorem sound_int (n : Int) (w : World) : SoundsAt w (.iface 82 (.int .i64 n)) := by
  have h1 := as_str_int n
  go_enter Try.func69, Try.ntmps69
  go_wp2
  go_ret
  exact ⟨rfl, rfl⟩
theorem sound_str (s : ByteArray) (w : World) : SoundsAt w (.iface 83 (.string s)) := by
  have h1 := as3_str s
  have h2 := as3_str2 s
  go_enter Try.func69, Try.ntmps69
  go_wp2
  go_ret
  exact ⟨rfl, rfl⟩
set_option maxHeartbeats 400000 in
theorem sound_pair {w : World} {b : Nat} {x y : Value} (hb : w.heap[b]? = some (.cells #[x, y] 92)) (h1 : SoundsAt w x) (h2 : SoundsAt w y) : SoundsAt w (.iface 90 (.pointer (some ⟨b, 0, none⟩))) := by
  have hlt := lt_of_heap hb
  have c0 : w.cell? ⟨b, 0, none⟩ = some x := by simp [World.cell?, hb]
  have c1 : w.cell? ⟨b, 1, none⟩ = some y := by simp [World.cell?, hb]
  have a1 := as3_pair (some ⟨b, 0, none⟩)
  have a2 := as3_pair2 (some ⟨b, 0, none⟩)
  have a3 := as3_pair3 (some ⟨b, 0, none⟩)
  have h1 := hide h1
  have h2 := hide h2
  clear hb
  unfold SoundsAt at *
  go_enter Try.func69, Try.ntmps69
  go_wp2_with fail
  refine h1.out.mono ?_
  rintro e w' ⟨rfl, rfl⟩
  go_wp2_with fail
  refine h2.out.mono ?_
  rintro e w' ⟨rfl, rfl⟩
  go_wp2_with fail
  go_ret
  exact ⟨rfl, rfl⟩
set_option maxHeartbeats 400000 in
theorem sound_list {w : World} (v : V) (p : Option Addr) (hv : Rep w v (.iface 84 (.pointer p))) (hx : ∀ e ∈ elems v, ∀ x, Rep w e x → SoundsAt w x) : SoundsAt w (.iface 84 (.pointer p)) := by
  have a1 := as3_list p
  have a2 := as3_list2 p
  have a3 := as3_list3 p
  have a4 := as3_list4 p
  have HX := hide hx
  clear hx
  unfold SoundsAt at *
  go_enter Try.func69, Try.ntmps69
  go_wp2_with fail
  clear a1 a2 a3 a4
  go_loopg [11] (size v) (fun k c wr => ∃ (rest : V) (q : Option Addr), c = .pointer q ∧ Rep w rest (.iface 84 (.pointer q)) ∧ k = size rest ∧ wr = w ∧ (∀ e ∈ elems rest, e ∈ elems v))
  case atStart => exact ⟨v, p, rfl, hv, rfl, rfl, fun e h => h⟩
  case round =>
    obtain ⟨rest, q, rfl, hrep, hk, rfl, hel⟩ := hrel
    cases q with
    | none =>
      go_wp2
      go_ret
      exact ⟨rfl, rfl⟩
    | some q =>
      obtain ⟨l, r, b, y, q', rfl, hLr', rfl, hbk, hl, hr⟩ := rep_list_some hrep
      have c0 : wr.cell? ⟨b, 0, none⟩ = some y := by simp [World.cell?, hbk]
      have c1 : wr.cell? ⟨b, 1, none⟩ = some (.pointer q') := by simp [World.cell?, hbk]
      have hs := hide (HX.out l (hel l (by simp [elems])) y hl)
      have hel' := hide (fun e (he : e ∈ elems r) => hel e (by simp [elems, he]))
      clear hbk hrep hl hel
      go_wp2_with (go_at_call 69; refine hs.out.mono ?_; rintro e w' ⟨rfl, rfl⟩)
      go_roundg (size r)
      case measure => rw [hk]; simp [size]; omega
      case rel => exact ⟨r, q', rfl, hr, rfl, rfl, hel'.out⟩
theorem sounds_upto : ∀ (n : Nat) (v : V) (w : World) (x : Value), size v < n → Rep w v x → SoundsAt w x := by
  intro n
  induction n with
  | zero => intro v w x h; omega
  | succ n ih =>
    intro v w x hn h
    rcases rep_cases h with ⟨rfl, rfl⟩ | ⟨k, rfl, hk, rfl⟩ | ⟨s, rfl, rfl⟩ | ⟨l, r, b, y, q, rfl, hL, rfl, hb, h1, h2⟩ | ⟨l, r, b, y, q, rfl, rfl, hb, h1, h2⟩
    · exact sound_list _ _ h fun e he => by cases he
    · exact sound_int k w
    · exact sound_str _ w
    · exact sound_list _ _ h fun e he x' hr => ih e w x' (by have := elem_size _ e he; omega) hr
    · simp [size] at hn
      exact sound_pair hb (ih l w y (by omega) h1) (ih r w q (by omega) h2)
theorem sounds {w : World} {v : V} {x : Value} (h : Rep w v x) : SoundsAt w x := sounds_upto (size v + 1) v w x (by omega) h

section
variable {w : World} {s : Nat} {g : Option Nat} {vs : List V}

set_option maxHeartbeats 1000000 in
theorem check_calls (h : Stk w s g false vs) (hok : Okay vs) :
    Calls Try.prog 35 #[.pointer (some ⟨s, 0, none⟩)] w fun e w' => e = .returned (.bool true) ∧ Below w.heap.size w w' := by
  obtain ⟨a, cap, xs, h⟩ := h
  have c0 := h.c0
  have c1 := h.c1
  have hn5 := hok.1
  have HC : Hid (∀ w1, Below w.heap.size w w1 → w1.cell? ⟨s, 0, none⟩ = some (.slice a vs.length cap)) := fun w1 hb => (h.below hb).c0
  have HH := hide h
  clear h
  generalize hvn : vs.length = n at *
  have HN := hide hvn
  clear hvn
  go_enter Try.func35, Try.ntmps35
  go_wp2_with fail
  go_loopw [3, 17] (fun t i wr => ∃ k : Nat, k ≤ n ∧ i = .int .i64 k ∧ t = .int .i64 0 ∧ wr = w) (fun _ i _ => n - (intOf i).toNat)
  case atStart => exact ⟨0, by omega, rfl, rfl, rfl⟩
  case round =>
    obtain ⟨k, hk, rfl, rfl, hw⟩ := hrel
    subst wr
    by_cases hlt : k < n
    · obtain ⟨b, rfl, _, hcell⟩ := HH.out.opened (by rw [HN.out]; omega)
      obtain ⟨x, hx, hr⟩ := HH.out.at k (by rw [HN.out]; exact hlt)
      have hc := hcell k x hx
      have hs := hide (sounds hr)
      clear hcell hx hr
      unfold SoundsAt at hs
      go_wp2_with (go_at_call 69; refine hs.out.mono ?_; rintro e w' ⟨rfl, rfl⟩)
      go_roundw
      case rel => exact ⟨k + 1, by omega, by go_num, by first | rfl | trivial, by first | rfl | trivial⟩
      case measure => simp [intOf]; omega
    · go_wp2_with fail
      go_loopw [34] (fun i w2 => ∃ k : Nat, k ≤ n ∧ i = .int .i64 k ∧ Below w.heap.size w w2) (fun i _ => n - (intOf i).toNat)
      case atStart => exact ⟨0, by omega, rfl, Below.refl _ _⟩
      case round =>
        obtain ⟨j, hj, rfl, hb⟩ := hrel
        have c02 := HC.out wr hb
        by_cases hlt2 : j < n
        · have hstk := HH.out.below hb
          obtain ⟨b, rfl, _, hcell⟩ := hstk.opened (by rw [HN.out]; omega)
          obtain ⟨x, hx, hr⟩ := hstk.at j (by rw [HN.out]; exact hlt2)
          have hc := hcell j x hx
          have hjv : j < vs.length := by rw [HN.out]; exact hlt2
          have htx := hok.2 _ (List.getElem_mem hjv)
          have hf := fits_calls hr (by omega)
          rw [decide_eq_true htx] at hf
          have hf := hide hf
          clear hcell hx hr hstk htx
          go_wp2_with (go_at_call 70; refine hf.out.mono ?_; rintro e w2 ⟨rfl, hb2⟩)
          go_roundw
          case rel => exact ⟨j + 1, by omega, by go_num, hb.trans (hb2.mono hb.size)⟩
          case measure => simp [intOf]; omega
        · go_wp2_with fail
          go_ret
          exact ⟨by simp; omega, hb⟩
end
end Go.Proofs.Qxb6500606a
