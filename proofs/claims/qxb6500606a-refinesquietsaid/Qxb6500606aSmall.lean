/-
  THE SMALL METHODS: peek, lack, swap, Depth, New, fits.
-/
import Derived.Test.Qxb6500606aStack
import Derived.Maps.AppendAt
import Derived.RangeFuncBox
import Derived.ArgAppend
namespace Go.Proofs.Qxb6500606a
open Go.ChangeShapes Go.WideShapes Go.ChangeAt Go.RowKit
attribute [local go_sem] str_size str_app str_app1 str_1app str_toList
set_option linter.unusedVariables false

theorem IsStack.c0 {w : World} {s : Nat} {g : Option Nat} {busy : Bool} {vs : List V} {a : Option Addr} {cap : Nat} {xs : List Value} (h : IsStack w s g busy vs a cap xs) : w.cell? ⟨s, 0, none⟩ = some (.slice a vs.length cap) := by simp [World.cell?, h.head]
theorem IsStack.c1 {w : World} {s : Nat} {g : Option Nat} {busy : Bool} {vs : List V} {a : Option Addr} {cap : Nat} {xs : List Value} (h : IsStack w s g busy vs a cap xs) : w.cell? ⟨s, 1, none⟩ = some (.bool busy) := by simp [World.cell?, h.head]
theorem IsStack.z {w : World} {s : Nat} {g : Option Nat} {busy : Bool} {vs : List V} {a : Option Addr} {cap : Nat} {xs : List Value} (h : IsStack w s g busy vs a cap xs) (i : Nat) : w.frozen? ⟨s, i, none⟩ = false := frozen_of_row w s i _ _ h.head
theorem IsStack.opened {w : World} {s : Nat} {g : Option Nat} {busy : Bool} {vs : List V} {a : Option Addr} {cap : Nat} {xs : List Value} (h : IsStack w s g busy vs a cap xs) (hn : 0 < vs.length) :
    ∃ b, a = some ⟨b, 0, none⟩ ∧ g = some b ∧ ∀ j x, xs[j]? = some x → w.cell? ⟨b, j, none⟩ = some x := by
  rcases h.row.2 with ⟨_, h1⟩ | ⟨b, cap', cur, h1, h2⟩
  · omega
  · simp only [Value.slice.injEq, true_and] at h1
    obtain ⟨rfl, rfl⟩ := h1
    refine ⟨b, rfl, h.arr.symm, fun j x hx => ?_⟩
    have hj : j < vs.length * 1 := by
      have := (List.getElem?_eq_some_iff.1 hx).1
      rw [h.row.1] at this
      exact this
    rw [h.row.cellAt j hj, hx]

/-- The value i places below the top. -/
theorem IsStack.at {w : World} {s : Nat} {g : Option Nat} {busy : Bool} {vs : List V} {a : Option Addr} {cap : Nat} {xs : List Value} (h : IsStack w s g busy vs a cap xs) (j : Nat) (hj : j < vs.length) :
    ∃ x, xs[j]? = some x ∧ Rep w vs[j] x := h.reps.get j (List.getElem?_eq_getElem hj)

set_option maxHeartbeats 400000 in
theorem peek0 {w : World} {s : Nat} {g : Option Nat} {busy : Bool} {vs : List V} {a : Option Addr} {cap : Nat} {xs : List Value} (h : IsStack w s g busy vs a cap xs) (hn : vs.length ≤ 5) (x : Value) (hi : 0 < vs.length) (hx : xs[vs.length - 1]? = some x) :
    Calls Try.prog 73 #[.pointer (some ⟨s, 0, none⟩), .int .i64 0] w fun e w' => e = .returned x ∧ w' = w := by
  obtain ⟨b, rfl, _, hc⟩ := h.opened (by omega)
  have c0 := h.c0
  have hc := hc _ _ hx
  have hge : decide (vs.length ≤ 0) = false := decide_eq_false (by omega)
  clear h hx
  generalize vs.length = n at *
  go_enter Try.func73, Try.ntmps73
  go_wp2
  go_ret
  exact ⟨rfl, rfl⟩

set_option maxHeartbeats 400000 in
theorem peek1 {w : World} {s : Nat} {g : Option Nat} {busy : Bool} {vs : List V} {a : Option Addr} {cap : Nat} {xs : List Value} (h : IsStack w s g busy vs a cap xs) (hn : vs.length ≤ 5) (x : Value) (hi : 1 < vs.length) (hx : xs[vs.length - 1 - 1]? = some x) :
    Calls Try.prog 73 #[.pointer (some ⟨s, 0, none⟩), .int .i64 1] w fun e w' => e = .returned x ∧ w' = w := by
  obtain ⟨b, rfl, _, hc⟩ := h.opened (by omega)
  have c0 := h.c0
  have hc := hc _ _ hx
  have hge : decide (vs.length ≤ 1) = false := decide_eq_false (by omega)
  clear h hx
  generalize vs.length = n at *
  go_enter Try.func73, Try.ntmps73
  go_wp2
  go_ret
  exact ⟨rfl, rfl⟩

set_option maxHeartbeats 400000 in
theorem peek0_out {w : World} {s : Nat} {g : Option Nat} {busy : Bool} {vs : List V} {a : Option Addr} {cap : Nat} {xs : List Value} (h : IsStack w s g busy vs a cap xs) (hn : vs.length ≤ 5) (hi : vs.length = 0) :
    Calls Try.prog 73 #[.pointer (some ⟨s, 0, none⟩), .int .i64 0] w fun e w' => e = .returned .nilIface ∧ w' = w := by
  have c0 := h.c0
  clear h
  rw [hi] at c0
  go_enter Try.func73, Try.ntmps73
  go_wp2
  go_ret
  exact ⟨rfl, rfl⟩

set_option maxHeartbeats 400000 in
theorem peek1_out {w : World} {s : Nat} {g : Option Nat} {busy : Bool} {vs : List V} {a : Option Addr} {cap : Nat} {xs : List Value} (h : IsStack w s g busy vs a cap xs) (hn : vs.length ≤ 5) (hi : vs.length < 2) :
    Calls Try.prog 73 #[.pointer (some ⟨s, 0, none⟩), .int .i64 1] w fun e w' => e = .returned .nilIface ∧ w' = w := by
  have c0 := h.c0
  clear h
  rcases (show vs.length = 0 ∨ vs.length = 1 by omega) with e | e
  all_goals
    rw [e] at c0
    go_enter Try.func73, Try.ntmps73
    go_wp2
    go_ret
    exact ⟨rfl, rfl⟩

set_option maxHeartbeats 400000 in
theorem lack1 {w : World} {s : Nat} {g : Option Nat} {busy : Bool} {vs : List V} {a : Option Addr} {cap : Nat} {xs : List Value} (h : IsStack w s g busy vs a cap xs) (hn : vs.length ≤ 5) :
    Calls Try.prog 75 #[.pointer (some ⟨s, 0, none⟩), .int .i64 1] w fun e w' => e = .returned (.int .i64 (if vs.length = 0 then 4 else 5)) ∧ w' = w := by
  have c0 := h.c0
  clear h
  by_cases e : vs.length = 0
  · rw [if_pos e]
    rw [e] at c0
    go_enter Try.func75, Try.ntmps75
    go_wp2
    go_ret
    exact ⟨rfl, rfl⟩
  · rw [if_neg e]
    have hge : decide (vs.length < 1) = false := decide_eq_false (by omega)
    generalize vs.length = n at *
    go_enter Try.func75, Try.ntmps75
    go_wp2
    go_ret
    exact ⟨rfl, rfl⟩

set_option maxHeartbeats 400000 in
theorem lack2 {w : World} {s : Nat} {g : Option Nat} {busy : Bool} {vs : List V} {a : Option Addr} {cap : Nat} {xs : List Value} (h : IsStack w s g busy vs a cap xs) (hn : vs.length ≤ 5) :
    Calls Try.prog 75 #[.pointer (some ⟨s, 0, none⟩), .int .i64 2] w fun e w' => e = .returned (.int .i64 (if vs.length < 2 then 4 else 5)) ∧ w' = w := by
  have c0 := h.c0
  clear h
  by_cases e : vs.length < 2
  · rw [if_pos e]
    generalize vs.length = n at *
    go_enter Try.func75, Try.ntmps75
    go_wp2
    go_ret
    exact ⟨rfl, rfl⟩
  · rw [if_neg e]
    generalize vs.length = n at *
    go_enter Try.func75, Try.ntmps75
    go_wp2
    go_ret
    exact ⟨rfl, rfl⟩

theorem depth_calls {w : World} {s : Nat} {g : Option Nat} {busy : Bool} {vs : List V} {a : Option Addr} {cap : Nat} {xs : List Value} (h : IsStack w s g busy vs a cap xs) (hn : vs.length ≤ 5) :
    Calls Try.prog 49 #[.pointer (some ⟨s, 0, none⟩)] w fun e w' => e = .returned (.int .i64 vs.length) ∧ w' = w := by
  have c0 := h.c0
  clear h
  go_enter Try.func49, Try.ntmps49
  go_wp2
  go_ret
  exact ⟨rfl, rfl⟩

theorem fits_calls {w : World} {v : V} {x : Value} (h : Rep w v x) (hs : (text v).length ≤ 1000) :
    Calls Try.prog 70 #[x] w fun e w' => e = .returned (.bool (decide ((text v).length ≤ 30))) ∧ Below w.heap.size w w' := by
  have hsh := shows h hs
  go_enter Try.func70, Try.ntmps70
  go_wp2_with (refine wpList_show rfl _ _ rfl x rfl _ hsh ?_; intro w1 hb1)
  go_ret
  exact ⟨by simp; omega, hb1⟩

theorem new_calls (w : World) : Calls Try.prog 20 #[] w fun e w' => e = .returned (.pointer (some ⟨w.heap.size, 0, none⟩)) ∧ w' = w.alloc (.cells #[.slice none 0 0, .bool false] 46) := by
  go_enter Try.func20, Try.ntmps20
  go_wp2
  go_ret
  exact ⟨rfl, rfl⟩

theorem new_is (w : World) : IsStack (w.alloc (.cells #[.slice none 0 0, .bool false] 46)) w.heap.size none false [] none 0 [] :=
  ⟨heap_alloc_new w _, World.ownsRow_nil _ _ _ _, rfl, trivial⟩

/-- The element type of the stack's slices. -/
theorem infoV : (Try.prog.info? 60).map (fun i => (i.zero, i.size, i.bytes)) = some (some .nilIface, 1, 16) := by kernel_rfl

theorem ownsRow_prefix {w : World} {a : Option Addr} {n cap : Nat} {xs : List Value} {e : TypeId} (h : w.ownsRow 0 e 1 (.slice a n cap) n xs) (k : Nat) (hk : k ≤ n) : w.ownsRow 0 e 1 (.slice a k cap) k (xs.take k) := by
  refine ⟨by rw [List.length_take, h.1]; omega, ?_⟩
  rcases h.2 with ⟨h1, h2⟩ | ⟨g, cap', cur, h1, h2, h3, h4, h5, h6, h7⟩
  · simp only [Value.slice.injEq] at h1
    obtain ⟨rfl, rfl, rfl⟩ := h1
    obtain rfl : k = 0 := by omega
    exact .inl ⟨rfl, rfl⟩
  · simp only [Value.slice.injEq, true_and] at h1
    obtain ⟨rfl, rfl⟩ := h1
    refine .inr ⟨g, cap, cur, rfl, h2, h3, by omega, h5, h6, ?_⟩
    rw [← h7, List.take_take]
    congr 1
    omega

theorem ownsRow_cap {w : World} {a : Option Addr} {n cap : Nat} {xs : List Value} {e : TypeId} (h : w.ownsRow 0 e 1 (.slice a n cap) n xs) : n ≤ cap := by
  rcases h.2 with ⟨h1, h2⟩ | ⟨g, cap', cur, h1, h2, h3, h4, h5, h6, h7⟩
  · omega
  · simp only [Value.slice.injEq, true_and] at h1
    omega

theorem ownBlock_len {a : Option Addr} {n m cap : Nat} : (Value.slice a n cap).ownBlock = (Value.slice a m cap).ownBlock := by cases a <;> rfl
/-- The stack's own block behind an append onto its array. -/
theorem swap_head {w w1 : World} {s n m cap : Nat} {a : Option Addr} {o x : Obj} (hd : w.heap[s]? = some x) (hne : ∀ b, (Value.slice a n cap).ownBlock = some b → b ≠ s) (hg : (w.alloc o).grownBy w1 (Value.slice a m cap).ownBlock) : w1.heap[s]? = some x := by
  have hlt := lt_of_heap hd
  refine (hg.block s (by simp; omega) ?_).trans ((heap_alloc_old w _ hlt).trans hd)
  intro e
  exact hne s (by rw [ownBlock_len (m := m)]; exact e.symm) rfl

/-- The append onto a row of one's own, TOLD TOO: the new row is the old one's block, or a new block. -/
theorem run_append_own2 {P : Program} (w : World) (t ty e : TypeId) (i : TypeInfo) (z : Value) (bytes : Nat) (ht : P.underlying t = some (.slice e)) (hi : P.info? e = some i) (hz : i.zero = some z)
    (hsize : i.size = 1) (hby : i.bytes = bytes) (hzs : z.cells.size = 1)
    (v : Value) (n : Nat) (xs : List Value) (hown : w.ownsRow 0 e 1 v n xs)
    (ad : Addr) (m c : Nat) (news : List Value) (hl : news.length = m * 1) (hnews : ∀ j u, news[j]? = some u → w.cell? (ad.add j) = some u) (h1 : ∀ u ∈ news, u.oneCell' = true)
    (h63 : n + m ≤ maxLen) (hbytes : (n + m) * bytes ≤ 140737488355328) :
    ∃ v' w', (Builtin.append_ #[t, t] ty #[v, .slice (some ad) m c]).run P w = .ok v' w' ∧ w'.ownsRow 0 e 1 v' (n + m) (xs ++ news) ∧ w.grownBy w' v.ownBlock ∧
      (v'.ownBlock = v.ownBlock ∨ ∀ k, v'.ownBlock = some k → w.heap.size ≤ k) := by
  rcases hown.2 with ⟨rfl, rfl⟩ | ⟨g, cap, cur, rfl, _, hg, hnc, hcm, hcs, htake⟩
  · obtain rfl : xs = [] := List.eq_nil_of_length_eq_zero (by simpa using hown.1)
    obtain ⟨v', w', r1, r2, r3, _⟩ := run_append_own (P := P) w w.heap.size t ty e i z 1 bytes ht hi hz hsize hby hzs (by decide) (.slice none 0 0) 0 [] (World.ownsRow_nil w _ e 1) ad m c news hl hnews h1 h63 hbytes (Nat.le_refl _)
    exact ⟨v', w', r1, ⟨r2.1, orMap r2.2 id fun ⟨g, cap, cur, a, _, b⟩ => ⟨g, cap, cur, a, Nat.zero_le _, b⟩⟩, r3, .inr fun k hk => (r2.lt k hk).1⟩
  · by_cases hroom : n + m ≤ cap
    · obtain ⟨w', r1, r2, r3⟩ := run_append_fits (P := P) w 0 t ty e i 1 ht hi hsize g n cap xs hown ad m c news hl hnews h1 hroom
      exact ⟨_, w', r1, r2, r3, .inl rfl⟩
    · obtain ⟨v', w', r1, r2, r3⟩ := run_append_arg_grows (P := P) w t ty e i z 1 bytes ht hi hz hsize hby hzs (by decide) ⟨g, 0, none⟩ n cap xs hown.1 (hown.cells rfl) ad m c news hl hnews (by omega) h63 hbytes
      exact ⟨v', w', r1, ⟨r2.1, orMap r2.2 id fun ⟨g, cap, cur, a, _, b⟩ => ⟨g, cap, cur, a, Nat.zero_le _, b⟩⟩, ⟨r3.os, r3.tape, r3.output, r3.size, fun k hk _ => r3.block k hk (by simp)⟩, .inr fun k hk => (r2.lt k hk).1⟩

theorem wpList_append_own2 {P : Program} (w : World) {ops : Array Oper} {rest : List Oper} {o : Oper} {a : Act} {Q : Exit → Act → World → Prop} (hgd : o.guard = none) (s x : Operand) (t : TypeId)
    (ho : o.op = .call { callee := .builtin .append, args := #[s, x], argTypes := #[t, t] })
    (e : TypeId) (i : TypeInfo) (z : Value) (bytes : Nat) (ht : P.underlying t = some (.slice e)) (hi : P.info? e = some i) (hz : i.zero = some z)
    (hsize : i.size = 1) (hby : i.bytes = bytes) (hzs : z.cells.size = 1)
    (v : Value) (n : Nat) (xs : List Value) (hs : a.eval s = v) (hown : w.ownsRow 0 e 1 v n xs)
    (ad : Addr) (m c : Nat) (news : List Value) (hx : a.eval x = .slice (some ad) m c) (hl : news.length = m * 1) (hnews : ∀ j u, news[j]? = some u → w.cell? (ad.add j) = some u) (h1 : ∀ u ∈ news, u.oneCell' = true)
    (h63 : n + m ≤ maxLen) (hbytes : (n + m) * bytes ≤ 140737488355328)
    (h : ∀ v' w', w'.ownsRow 0 e 1 v' (n + m) (xs ++ news) → w.grownBy w' v.ownBlock → (v'.ownBlock = v.ownBlock ∨ ∀ k, v'.ownBlock = some k → w.heap.size ≤ k) → wpList P ops Q rest (a.put o.dst v') w') : wpList P ops Q (o :: rest) a w :=
  wpList_plain hgd fun K hK => by
    obtain ⟨v', w', hr, h2, h3, h4⟩ := run_append_own2 (P := P) w t o.type e i z bytes ht hi hz hsize hby hzs v n xs hown ad m c news hl hnews h1 h63 hbytes
    unfold Oper.wp execOp
    simp only [ho, resolve, invoke, builtin, Sem.run_bind, Sem.run_pure, Result.andThen_ok, List.map_toArray, List.map_cons, List.map_nil, hs, hx, hr]
    exact hK _ _ (h v' w' h2 h3 h4)

set_option maxHeartbeats 1000000 in
theorem swap_core {w : World} {s : Nat} {a : Option Addr} {n cap : Nat} {xs : List Value} {busy : Bool} (hd : w.heap[s]? = some (.cells #[.slice a n cap, .bool busy] 46)) (hr : w.ownsRow 0 60 1 (.slice a n cap) n xs) (d : Nat) (hd5 : n ≤ 5) (hdn : d ≤ n) (T : TypeId) (y : Value) (hne : ∀ b, (Value.slice a n cap).ownBlock = some b → b ≠ s) :
    Calls Try.prog 72 #[.pointer (some ⟨s, 0, none⟩), .int .i64 d, .iface T y] w fun e w' => e = .returned (.tuple #[]) ∧ ∃ w1 g' cap', (w.alloc (.cells #[.iface T y] 60)).grownBy w1 (Value.slice a n cap).ownBlock ∧
      w1.ownsRow 0 60 1 (.slice (some ⟨g', 0, none⟩) (n - d + 1) cap') (n - d + 1) (xs.take (n - d) ++ [.iface T y]) ∧ ((Value.slice a n cap).ownBlock = some g' ∨ w.heap.size ≤ g') ∧ w' = w1.setCell ⟨s, 0, none⟩ (.slice (some ⟨g', 0, none⟩) (n - d + 1) cap') := by
  obtain ⟨i0, hi, hz0, hz1, hz2⟩ := info_parts infoV
  have c0 : w.cell? ⟨s, 0, none⟩ = some (.slice a n cap) := by simp [World.cell?, hd]
  have hp := ownsRow_prefix hr (n - d) (by omega)
  have hcap := ownsRow_cap hr
  go_enter Try.func72, Try.ntmps72
  go_wp2_with (at_builtin; refine wpList_append_own2 _ rfl _ _ 44 rfl 60 i0 .nilIface 16 Try.underlying44 hi hz0 hz1 hz2 rfl (.slice a (n - d) cap) (n - d) (xs.take (n - d)) rfl (hp.alloc _) ⟨w.heap.size, 0, none⟩ 1 1 [.iface T y] rfl rfl (cell_one_new _ _ _) (by simp [Value.oneCell']) (by simp [maxLen]; omega) (by omega) ?_; intro v' w1 hown' hgrow hfr; obtain ⟨g', cap', rfl⟩ := ownsRow_succ hown'; have hbs := swap_head hd hne hgrow; have c0' : w1.cell? ⟨s, 0, none⟩ = some (.slice a n cap) := (by simp [World.cell?, hbs]); have z0 := frozen_of_row w1 s 0 _ _ hbs)
  go_end0
  rw [ownBlock_len (m := n)] at hgrow
  refine ⟨rfl, w1, g', cap', hgrow, hown', ?_, rfl⟩
  rcases hfr with h | h
  · exact .inl (by rw [ownBlock_len (m := n - d)]; exact h.symm)
  · have := h g' rfl; simp at this; exact .inr (by omega)

theorem Rep.iface {w : World} {v : V} {x : Value} (h : Rep w v x) : ∃ T y, x = .iface T y := by
  rcases rep_cases h with ⟨_, h⟩ | ⟨n, _, _, h⟩ | ⟨s, _, h⟩ | ⟨l, r, b, y, q, _, _, h, _⟩ | ⟨l, r, b, y, q, _, h, _⟩ <;> exact ⟨_, _, h⟩

/-- A stack is somewhere else: its array is the old one or new. -/
def Grew (w : World) (g g' : Option Nat) : Prop := ∀ b, g' = some b → g = some b ∨ w.heap.size ≤ b

/-- swap: the top d values go, v comes. -/
theorem swap_calls {w : World} {s : Nat} {g : Option Nat} {busy : Bool} {vs : List V} {a : Option Addr} {cap : Nat} {xs : List Value} (h : IsStack w s g busy vs a cap xs) (hn : vs.length ≤ 5) (d : Nat) (hd : d ≤ vs.length) {v : V} {x : Value} (hv : Rep w v x) :
    Calls Try.prog 72 #[.pointer (some ⟨s, 0, none⟩), .int .i64 d, x] w fun e w' => e = .returned (.tuple #[]) ∧ ∃ g' a' cap' xs', IsStack w' s g' busy (vs.take (vs.length - d) ++ [v]) a' cap' xs' ∧ Grew w g g' ∧ Only (own s g) w w' := by
  obtain ⟨T, y, rfl⟩ := hv.iface
  refine (swap_core h.head h.row d hn hd T y (fun b hb => h.ne (by rw [← h.arr]; exact hb))).mono ?_
  rintro e w' ⟨rfl, w1, g', cap', hg, hown, hfr, rfl⟩
  have harr := h.arr
  rw [harr] at hg hfr
  have ho1 : Only (own s g) w w1 := ((Only.refl _ w).alloc _).grown hg (fun k hk => .inl (.inr hk))
  have ho2 : Only (own s g) w (w1.setCell ⟨s, 0, none⟩ (.slice (some ⟨g', 0, none⟩) (vs.length - d + 1) cap')) := ho1.setCell (.inl (.inl rfl)) _
  have hk := h.keepsV ho2
  have hbs : w1.heap[s]? = some (.cells #[.slice a vs.length cap, .bool busy] 46) := swap_head h.head (fun b hb => h.ne (by rw [← h.arr]; exact hb)) (m := vs.length) (by rw [harr]; exact hg)
  have hgs : g' ≠ s := by
    rcases hfr with h1 | h1
    · exact h.ne h1
    · have := lt_of_heap h.head; omega
  have hlen : (vs.take (vs.length - d) ++ [v]).length = vs.length - d + 1 := by simp
  refine ⟨rfl, some g', some ⟨g', 0, none⟩, cap', xs.take (vs.length - d) ++ [.iface T y], ⟨?_, ?_, rfl, ?_⟩, ?_, ho2⟩
  · rw [hlen, heap_setCell_same w1 s 0 _ _ _ hbs]
    rfl
  · rw [hlen]
    refine ⟨hown.1, orMap hown.2 id ?_⟩
    rintro ⟨g2, cap2, cur, h1, h2, h3, h4⟩
    simp only [Value.slice.injEq, Option.some.injEq, Addr.mk.injEq, and_true, true_and] at h1
    obtain ⟨rfl, rfl⟩ := h1
    exact ⟨g', cap', cur, rfl, h2, (Below.heap_setCell w1 _ _ g' hgs).trans h3, h4⟩
  · exact ((h.reps.keep hk).take _).append ⟨hv.keep hk, trivial⟩
  · intro b hb
    cases hb
    exact hfr
end Go.Proofs.Qxb6500606a
