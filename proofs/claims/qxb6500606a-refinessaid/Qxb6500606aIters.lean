/-
  THE TWO ITERATORS: a list's All, a pair's All.
-/
import Derived.Test.Qxb6500606aRange
namespace Go.Proofs.Qxb6500606a
open Go.ChangeShapes Go.WideShapes Go.ChangeAt Go.RowKit Go.Shelf
attribute [local go_sem] Oper.semAt_some
set_option linter.unusedVariables false

/-- From p on: the cells' heads, first to last. -/
def Chain (w : World) : Option Addr → List Value → Prop
  | none, [] => True
  | some a, x :: xs => ∃ b q, a = ⟨b, 0, none⟩ ∧ w.heap[b]? = some (.cells #[x, .pointer q] 89) ∧ Chain w q xs
  | _, _ => False
theorem Chain.keep {w w' : World} (hk : KeepsV w w') : ∀ {xs : List Value} {p : Option Addr}, Chain w p xs → Chain w' p xs
  | [], none, _ => trivial
  | x :: xs, some a, ⟨b, q, h1, h2, h3⟩ => ⟨b, q, h1, hk b _ _ (.inl rfl) h2, Chain.keep hk h3⟩
  | [], some _, h => h.elim
  | _ :: _, none, h => h.elim
theorem Chain.inj {w : World} : ∀ {xs ys : List Value} {p : Option Addr}, Chain w p xs → Chain w p ys → xs = ys
  | [], [], _, _, _ => rfl
  | [], _ :: _, none, _, h => h.elim
  | [], _ :: _, some _, h, _ => h.elim
  | _ :: _, [], none, h, _ => h.elim
  | _ :: _, [], some _, _, h => h.elim
  | _ :: _, _ :: _, none, h, _ => h.elim
  | x :: xs, y :: ys, some a, ⟨b, q, h1, h2, h3⟩, ⟨b', q', h1', h2', h3'⟩ => by
    subst h1
    cases h1'
    rw [h2] at h2'
    simp at h2'
    obtain ⟨rfl, rfl⟩ := h2'
    rw [Chain.inj h3 h3']
theorem chain_of_rep {w : World} : ∀ {v : V} {p : Option Addr}, Rep w v (.iface 84 (.pointer p)) → ∃ xs, Chain w p xs ∧ RepAll w (elems v) xs := by
  intro v
  induction v with
  | nil => intro p h; simp [Rep] at h; subst h; exact ⟨[], trivial, trivial⟩
  | node t o a l r ihl ihr =>
    intro p h
    cases p with
    | none => exact absurd (rep_list_none h) (by simp)
    | some p =>
      obtain ⟨l1, r1, b, y, q, hv, hL, rfl, hb, h1, h2⟩ := rep_list_some h
      cases hv
      obtain ⟨xs, hx1, hx2⟩ := ihr h2
      exact ⟨y :: xs, ⟨b, q, rfl, hb, hx1⟩, h1, hx2⟩

theorem left_eq {w : World} {p : Option Addr} {xs : List Value} (h : Chain w p xs) : leastOf (fun m => ∃ ys, m = ys.length ∧ Chain w p ys) = xs.length := by
  obtain ⟨⟨ys, h1, h2⟩, _⟩ := leastOf_spec (p := fun m => ∃ ys : List Value, m = ys.length ∧ Chain w p ys) ⟨xs.length, xs, rfl, h⟩
  rw [h1, Chain.inj h2 h]

theorem wd {n : Nat} : Fence.wide.depth.isSome = true → 1 ≤ n := fun h => by simp [Fence.wide] at h
/-- The pointer in a slot. -/
def ptrOf : Value → Option Addr | .pointer p => p | _ => none

set_option maxHeartbeats 1000000 in
theorem walks_list {n : Nat} {W0 : World} {bx : Nat} {p : Option Addr} {xs : List Value} (hbx : W0.heap[bx]? = some (.cells #[.pointer p] 84)) (hch : Chain W0 p xs) : Walks n 116 #[.pointer (some ⟨bx, 0, none⟩)] xs W0 := by
  intro l J Jx Jp W hkv hY h0
  have hbx' := hkv _ _ _ (.inr (.inr (.inl rfl))) hbx
  have cbx : W.cell? ⟨bx, 0, none⟩ = some (.pointer p) := by simp [World.cell?, hbx']
  have HY := hide hY
  clear hY
  refine callsIn_of_wp Try.func116 rfl trivial ?_ rfl
  simp only [Try.ntmps116, List.size_toArray, List.length_cons, List.length_nil, Nat.reduceAdd, Nat.reduceSub, Array.replicate_succ, Array.replicate_zero, List.push_toArray, List.append_toArray, List.nil_append, List.cons_append]
  gi_wp2
  gi_loopw [3] (fun c wr => ∃ (i : Nat) (q : Option Addr), c = .pointer q ∧ i ≤ xs.length ∧ Chain wr q (xs.drop i) ∧ J i wr)
    (fun c wr => leastOf (fun m => ∃ ys, m = ys.length ∧ Chain wr (ptrOf c) ys))
  case atStart =>
    exact ⟨0, p, rfl, Nat.zero_le _, hch.keep hkv, h0⟩
  case round =>
    obtain ⟨i, q, rfl, hi, hc, hJ⟩ := hrel
    cases hd : xs.drop i with
    | nil =>
      rw [hd] at hc
      have hq : q = none := by cases q with | none => rfl | some a => exact hc.elim
      subst hq
      have hlen : i = xs.length := by have := List.drop_eq_nil_iff.1 hd; omega
      have HJ : Hid (J xs.length wr) := by rw [← hlen]; exact hJ
      clear hd hJ hlen hc
      gi_wp2
      go_end0
      exact .inl ⟨_, rfl, .inl HJ.out⟩
    | cons x rest =>
      have hxi : xs[i]? = some x := by
        have : (xs.drop i)[0]? = some x := by rw [hd]; rfl
        simpa using this
      have hc0 := hide hc
      rw [hd] at hc
      cases q with
      | none => exact hc.elim
      | some a =>
        obtain ⟨b, q', rfl, hb, hrest⟩ := hc
        have c0 : wr.cell? ⟨b, 0, none⟩ = some x := by simp [World.cell?, hb]
        obtain ⟨fn, tmps, assign, body, hy, hR⟩ := HY.out i x wr hxi hJ
        have HR := hide hR
        have HI : Hid (i < xs.length) := (List.getElem?_eq_some_iff.1 hxi).1
        have HD := hide hd
        clear hR hxi hd
        gi_wp2
        refine ⟨wd, HR.out.mono ?_⟩
        rintro e W3 (⟨rfl, hJ3, hk3⟩ | ⟨rfl, hJx3⟩ | ⟨ch, rfl, hJp⟩)
        · have hb3 := hk3 _ _ _ (.inl rfl) hb
          have c1 : W3.cell? ⟨b, 1, none⟩ = some (.pointer q') := by simp [World.cell?, hb3]
          have hr3 := hrest.keep hk3
          gi_wp2
          go_roundw
          case rel =>
            refine ⟨i + 1, q', rfl, HI.out, ?_, hJ3⟩
            have : xs.drop (i + 1) = rest := by rw [← List.drop_drop, HD.out]; rfl
            rw [this]; exact hr3
          case measure =>
            show leastOf (fun m => ∃ ys : List Value, m = ys.length ∧ Chain W3 q' ys) < leastOf (fun m => ∃ ys : List Value, m = ys.length ∧ Chain wr (some ⟨b, 0, none⟩) ys)
            have hcw : Chain wr (some ⟨b, 0, none⟩) (x :: rest) := ⟨b, q', rfl, hb, hrest⟩
            rw [left_eq hr3, left_eq hcw]
            simp
        · gi_wp2
          refine bodyPost_ret (results_none rfl _ _ _) rfl ?_
          exact .inl ⟨_, rfl, .inr hJx3⟩
        · gi_wp2
          exact ⟨rfl, .inr ⟨ch, rfl, hJp⟩⟩

set_option maxHeartbeats 1000000 in
theorem walks_pair {n : Nat} {W0 : World} {bx b : Nat} {x y : Value} (hbx : W0.heap[bx]? = some (.cells #[.pointer (some ⟨b, 0, none⟩)] 90)) (hb : W0.heap[b]? = some (.cells #[x, y] 92)) : Walks n 121 #[.pointer (some ⟨bx, 0, none⟩)] [x, y] W0 := by
  intro l J Jx Jp W hkv hY h0
  have hbx' := hkv _ _ _ (.inr (.inr (.inr rfl))) hbx
  have hb' := hkv _ _ _ (.inr (.inl rfl)) hb
  have cbx : W.cell? ⟨bx, 0, none⟩ = some (.pointer (some ⟨b, 0, none⟩)) := by simp [World.cell?, hbx']
  have c0 : W.cell? ⟨b, 0, none⟩ = some x := by simp [World.cell?, hb']
  have HY := hide hY
  obtain ⟨fn, tmps, assign, body, hy, hR⟩ := hY 0 x W rfl h0
  have HR := hide hR
  clear hY hR
  refine callsIn_of_wp Try.func121 rfl trivial ?_ rfl
  simp only [Try.ntmps121, List.size_toArray, List.length_cons, List.length_nil, Nat.reduceAdd, Nat.reduceSub, Array.replicate_succ, Array.replicate_zero, List.push_toArray, List.append_toArray, List.nil_append, List.cons_append]
  gi_wp2
  refine ⟨wd, HR.out.mono ?_⟩
  rintro e W3 (⟨rfl, hJ3, hk3⟩ | ⟨rfl, hJx3⟩ | ⟨ch, rfl, hJp⟩)
  · have hbx3 := hk3 _ _ _ (.inr (.inr (.inr rfl))) hbx'
    have hb3 := hk3 _ _ _ (.inr (.inl rfl)) hb'
    have cbx3 : W3.cell? ⟨bx, 0, none⟩ = some (.pointer (some ⟨b, 0, none⟩)) := by simp [World.cell?, hbx3]
    have c13 : W3.cell? ⟨b, 1, none⟩ = some y := by simp [World.cell?, hb3]
    obtain ⟨fn2, tmps2, assign2, body2, hy2, hR2⟩ := HY.out 1 y W3 rfl hJ3
    have HR2 := hide hR2
    clear hR2 hy
    gi_wp2
    refine ⟨wd, HR2.out.mono ?_⟩
    rintro e W4 (⟨rfl, hJ4, hk4⟩ | ⟨rfl, hJx4⟩ | ⟨ch, rfl, hJp⟩)
    · gi_wp2
      go_end0
      exact .inl ⟨_, rfl, .inl hJ4⟩
    · gi_wp2
      go_end0
      exact .inl ⟨_, rfl, .inr hJx4⟩
    · gi_wp2
      exact ⟨rfl, .inr ⟨ch, rfl, hJp⟩⟩
  · gi_wp2
    refine bodyPost_ret (results_none rfl _ _ _) rfl ?_
    exact .inl ⟨_, rfl, .inr hJx3⟩
  · gi_wp2
    exact ⟨rfl, .inr ⟨ch, rfl, hJp⟩⟩

theorem inv_all_list (p : Option Addr) (w : World) : (invoke (.fn (.method "All") #[]) #[.iface 84 (.pointer p)]).run Try.prog w = .ok (.enter 113 #[.pointer p]) w := by kernel_rfl
theorem inv_all_pair (p : Option Addr) (w : World) : (invoke (.fn (.method "All") #[]) #[.iface 90 (.pointer p)]).run Try.prog w = .ok (.enter 117 #[.pointer p]) w := by kernel_rfl
theorem all_list (p : Option Addr) (w : World) : Calls Try.prog 113 #[.pointer p] w fun e w' => e = .returned (.func (.func 116) #[] #[.pointer (some ⟨w.heap.size, 0, none⟩)]) ∧ w' = w.alloc (.cells #[.pointer p] 84) := by
  go_enter Try.func113, Try.ntmps113
  go_wp2
  go_ret
  exact ⟨rfl, rfl⟩
theorem all_pair (p : Option Addr) (w : World) : Calls Try.prog 117 #[.pointer p] w fun e w' => e = .returned (.func (.func 121) #[] #[.pointer (some ⟨w.heap.size, 0, none⟩)]) ∧ w' = w.alloc (.cells #[.pointer p] 90) := by
  go_enter Try.func117, Try.ntmps117
  go_wp2
  go_ret
  exact ⟨rfl, rfl⟩

/-- x's All, called through the interface, hands back an iterator over the parts of v; one new block, the receiver's box. -/
def AllsAt (n : Nat) (w : World) (x : Value) (v : V) : Prop := ∃ f args gf o xs, (invoke (.fn (.method "All") #[]) #[x]).run Try.prog w = .ok (.enter f args) w ∧
  (Calls Try.prog f args w fun e w' => e = .returned (.func (.func gf) #[] #[.pointer (some ⟨w.heap.size, 0, none⟩)]) ∧ w' = w.alloc o) ∧
  (∀ args w, (callFunc gf args).run Try.prog w = .ok (.enter gf args) w) ∧ RepAll w (parts v) xs ∧ Walks n gf #[.pointer (some ⟨w.heap.size, 0, none⟩)] xs (w.alloc o)
theorem alls {n : Nat} {w : World} {v : V} {x : Value} (h : Rep w v x) (hc : canIter v = true) : AllsAt n w x v := by
  have hlist : ∀ p, isL v = true → x = .iface 84 (.pointer p) → AllsAt n w x v := fun p hL hx => by
    subst hx
    obtain ⟨xs, h1, h2⟩ := chain_of_rep h
    have hp : parts v = elems v := by unfold parts; rw [if_neg]; intro hk; cases v with | nil => cases hk | node => have := isL_node hL; subst this; cases hk
    refine ⟨_, _, 116, .cells #[.pointer p] 84, xs, inv_all_list _ _, all_list p w, enters_of Try.func116 (by kernel_rfl) rfl, by rw [hp]; exact h2, ?_⟩
    exact walks_list (heap_alloc_new w _) (h1.keep (.of_below ((Below.refl _ _).alloc (Nat.le_refl _) _)))
  rcases rep_cases h with ⟨rfl, rfl⟩ | ⟨k, rfl, hk, rfl⟩ | ⟨s, rfl, rfl⟩ | ⟨l, r, b, y, q, rfl, hL, rfl, hb, h1, h2⟩ | ⟨l, r, b, y, q, rfl, rfl, hb, h1, h2⟩
  · exact hlist _ rfl rfl
  · simp [canIter, kind] at hc
  · simp [canIter, kind] at hc
  · exact hlist _ rfl rfl
  · refine ⟨_, _, 121, .cells #[.pointer (some ⟨b, 0, none⟩)] 90, [y, q], inv_all_pair _ _, all_pair _ w, enters_of Try.func121 (by kernel_rfl) rfl, ⟨h1, h2, trivial⟩, ?_⟩
    exact walks_pair (heap_alloc_new w _) ((heap_alloc_old w _ (lt_of_heap hb)).trans hb)
end Go.Proofs.Qxb6500606a
