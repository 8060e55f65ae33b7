/-
  THE CALL OF A METHOD THROUGH AN INTERFACE VALUE; the four Show methods.
-/
import Derived.Test.Qxb6500606aRep
import Derived.Deep.LoopGhost
import Derived.LaidEql
namespace Go.Proofs.Qxb6500606a
open Go.ChangeShapes Go.WideShapes Go.ChangeAt Go.RowKit
attribute [local go_sem] str_size str_app str_app1 str_1app str_toList

/-- A method called on an interface value, no argument, by the callee's contract. -/
theorem wpList_invoke {ops : Array Oper} {rest : List Oper} {o : Oper} {a : Act} {w : World} {Q : Exit → Act → World → Prop} (hgd : o.guard = none) (t : Operand) (nm : String) (ats : Array TypeId)
    (ho : o.op = .call { callee := .invoke t nm, args := #[], argTypes := ats }) (x : Value) (hx : a.eval t = x) (f : FuncId) (args : Array Value)
    (hinv : (invoke (.fn (.method nm) #[]) #[x]).run Try.prog w = .ok (.enter f args) w) (R : Ending → World → Prop) (hc : Calls Try.prog f args w R)
    (h : ∀ e w', R e w' → ∃ v, e = .returned v ∧ wpList Try.prog ops Q rest (a.put o.dst v) w') : wpList Try.prog ops Q (o :: rest) a w := by
  refine wpList_plain hgd fun K hK => ?_
  unfold Oper.wp
  have e : (execOp a.eval o).run Try.prog w = .ok (.enter f args) w := by
    unfold execOp
    simp only [ho, resolve, Sem.run_bind, Sem.run_pure, Result.andThen_ok, hx, List.map_toArray, List.map_nil, Array.append_empty]
    exact hinv
  rw [e, Oper.upon_enter]
  refine hc.mono ?_
  intro e w' hr
  obtain ⟨v, rfl, hv⟩ := h e w' hr
  exact hK _ _ hv

theorem inv_show_int (n : Int) (w : World) : (invoke (.fn (.method "Show") #[]) #[.iface 82 (.int .i64 n)]).run Try.prog w = .ok (.enter 108 #[.int .i64 n]) w := by kernel_rfl
theorem inv_show_str (s : ByteArray) (w : World) : (invoke (.fn (.method "Show") #[]) #[.iface 83 (.string s)]).run Try.prog w = .ok (.enter 111 #[.string s]) w := by kernel_rfl
theorem inv_show_list (p : Option Addr) (w : World) : (invoke (.fn (.method "Show") #[]) #[.iface 84 (.pointer p)]).run Try.prog w = .ok (.enter 115 #[.pointer p]) w := by kernel_rfl
theorem inv_show_pair (p : Option Addr) (w : World) : (invoke (.fn (.method "Show") #[]) #[.iface 90 (.pointer p)]).run Try.prog w = .ok (.enter 120 #[.pointer p]) w := by kernel_rfl

/-- x's Show, called through the interface, hands back t; new blocks alone. -/
def ShowsAt (w : World) (x : Value) (t : List UInt8) : Prop := ∃ f args, (invoke (.fn (.method "Show") #[]) #[x]).run Try.prog w = .ok (.enter f args) w ∧
  Calls Try.prog f args w fun e w' => e = .returned (.string (str t)) ∧ Below w.heap.size w w'

theorem wpList_show {ops : Array Oper} {rest : List Oper} {o : Oper} {a : Act} {w : World} {Q : Exit → Act → World → Prop} (hgd : o.guard = none) (t : Operand) (ats : Array TypeId)
    (ho : o.op = .call { callee := .invoke t "Show", args := #[], argTypes := ats }) (x : Value) (hx : a.eval t = x) (s : List UInt8) (hs : ShowsAt w x s)
    (h : ∀ w', Below w.heap.size w w' → wpList Try.prog ops Q rest (a.put o.dst (.string (str s))) w') : wpList Try.prog ops Q (o :: rest) a w := by
  obtain ⟨f, args, hinv, hc⟩ := hs
  refine wpList_invoke hgd t "Show" ats ho x hx f args hinv _ hc ?_
  rintro e w' ⟨rfl, hb⟩
  exact ⟨_, rfl, h w' hb⟩

theorem show_int (n : Int) (hn : I64 n) (w : World) : Calls Try.prog 108 #[.int .i64 n] w fun e w' => e = .returned (.string (str (itoa n))) ∧ Below w.heap.size w w' := by
  go_enter Try.func108, Try.ntmps108
  go_wp2_with (go_at_call 33; refine (itoa_calls n _ hn).mono ?_; rintro e w' ⟨rfl, hb⟩)
  go_ret
  exact ⟨rfl, hb⟩

theorem show_str (s : List UInt8) (hs : s.length ≤ 1000) (w : World) : Calls Try.prog 111 #[.string (str s)] w fun e w' => e = .returned (.string (str (itoa s.length ++ 58 :: s))) ∧ Below w.heap.size w w' := by
  have hl := itoa_length s.length
  go_enter Try.func111, Try.ntmps111
  go_wp2_with (go_at_call 33; refine (itoa_calls _ _ (by constructor <;> omega)).mono ?_; rintro e w' ⟨rfl, hb⟩)
  go_ret
  exact ⟨by simp, hb⟩

set_option maxHeartbeats 1000000 in
theorem show_pair {w : World} {b : Nat} {x y : Value} {s t : List UInt8} (hb : w.heap[b]? = some (.cells #[x, y] 92)) (hs : s.length ≤ 1000) (ht : t.length ≤ 1000)
    (hx : ShowsAt w x s) (hy : ∀ w', Below w.heap.size w w' → ShowsAt w' y t) :
    Calls Try.prog 120 #[.pointer (some ⟨b, 0, none⟩)] w fun e w' => e = .returned (.string (str (60 :: (s ++ 32 :: (t ++ [62]))))) ∧ Below w.heap.size w w' := by
  have hlt := lt_of_heap hb
  have c0 : w.cell? ⟨b, 0, none⟩ = some x := by simp [World.cell?, hb]
  have c1 : ∀ w', Below w.heap.size w w' → w'.cell? ⟨b, 1, none⟩ = some y := fun w' h => by
    rw [h.cell (p := ⟨b, 1, none⟩) hlt]; simp [World.cell?, hb]
  go_enter Try.func120, Try.ntmps120
  go_wp2_with (first | (refine wpList_show rfl _ _ rfl x rfl _ hx ?_; intro w1 hb1; have c1' := c1 w1 hb1; have hy1 := hy w1 hb1) | (refine wpList_show rfl _ _ rfl y rfl _ hy1 ?_; intro w2 hb2))
  go_ret
  exact ⟨by simp, hb1.trans (hb2.mono hb1.size)⟩

/-- A list that is not nil, opened. -/
theorem rep_list_some {w : World} {v : V} {p : Addr} (h : Rep w v (.iface 84 (.pointer (some p)))) :
    ∃ l r b y q, v = vcons l r ∧ isL r = true ∧ p = ⟨b, 0, none⟩ ∧ w.heap[b]? = some (.cells #[y, .pointer q] 89) ∧ Rep w l y ∧ Rep w r (.iface 84 (.pointer q)) := by
  rcases rep_cases h with ⟨_, h⟩ | ⟨n, _, _, h⟩ | ⟨s, _, h⟩ | ⟨l, r, b, y, q, rfl, hL, h, h1, h2, h3⟩ | ⟨l, r, b, y, q, rfl, h, _⟩ <;> simp at h
  exact ⟨l, r, b, y, q, rfl, hL, h, h1, h2, h3⟩
theorem rep_list_none {w : World} {v : V} (h : Rep w v (.iface 84 (.pointer none))) : v = .nil := by
  rcases rep_cases h with ⟨rfl, _⟩ | ⟨n, _, _, h⟩ | ⟨s, _, h⟩ | ⟨l, r, b, y, q, rfl, hL, h, _⟩ | ⟨l, r, b, y, q, rfl, h, _⟩
  · rfl
  all_goals simp at h

/-- Two pointers to one list are one. (A cell's block is told by the list.) -/
theorem equalIn_list (d b b' : Nat) (r : Bool) (w : World) (hso : (sameAddr ⟨b, 0, none⟩ ⟨b', 0, none⟩).run Try.prog w = .ok r w) :
    (Op.equalIn (d + 1) 84 (.pointer (some ⟨b, 0, none⟩)) (.pointer (some ⟨b', 0, none⟩))).run Try.prog w = .ok r w := by
  have hs : (sizeOf 89).run Try.prog w = .ok 2 w := by kernel_rfl
  simp [Op.equalIn, run_underlying Try.underlying84, hs, hso]
theorem eql_list_same (b : Nat) (w : World) : (binOp .eql 84 (.pointer (some ⟨b, 0, none⟩)) (.pointer (some ⟨b, 0, none⟩))).run Try.prog w = .ok (.bool true) w := by
  simp only [binOp]
  simp [Op.equal, Op.maxDepth, equalIn_list 9999 b b true w (run_sameAddr_same w _)]
theorem eql_list_other {b b' : Nat} {w : World} {c c' : Array Value} {t t' : TypeId} (hne : b ≠ b') (h1 : w.heap[b]? = some (.cells c t)) (h2 : w.heap[b']? = some (.cells c' t')) :
    (binOp .eql 84 (.pointer (some ⟨b, 0, none⟩)) (.pointer (some ⟨b', 0, none⟩))).run Try.prog w = .ok (.bool false) w := by
  have hso := run_sameAddr_other (P := Try.prog) w (a := ⟨b, 0, none⟩) (b := ⟨b', 0, none⟩) (by intro e; exact hne (congrArg Addr.block e)) h1 h2
  simp only [binOp]
  simp [Op.equal, Op.maxDepth, equalIn_list 9999 b b' false w hso]

set_option maxHeartbeats 1000000 in
theorem show_list {w : World} (v : V) (p : Option Addr) (hL : isL v = true) (hv : Rep w v (.iface 84 (.pointer p))) (hs : (text v).length ≤ 1000)
    (hx : ∀ e ∈ elems v, ∀ w' x, Rep w' e x → ShowsAt w' x (text e)) :
    Calls Try.prog 115 #[.pointer p] w fun e w' => e = .returned (.string (str (text v))) ∧ Below w.heap.size w w' := by
  have HL : Hid (isL v = true) := hL
  have HX : Hid (∀ e ∈ elems v, ∀ w' x, Rep w' e x → ShowsAt w' x (text e)) := hx
  clear hL hx
  go_enter Try.func115, Try.ntmps115
  go_wp2
  go_loopg [3, 4] (size v) (fun k t c wr => ∃ (rest : V) (q : Option Addr) (acc : List UInt8), c = .pointer q ∧ t = .string (str (91 :: acc)) ∧ Rep wr rest (.iface 84 (.pointer q)) ∧ isL rest = true ∧ k = size rest ∧
      Below w.heap.size w wr ∧ (∀ e ∈ elems rest, e ∈ elems v) ∧ ((rest = v ∧ acc = [] ∧ q = p) ∨ (size rest < size v ∧ acc ++ sepInner rest = inner v)))
  case atStart => exact ⟨v, p, [], rfl, rfl, hv, HL.out, rfl, Below.refl _ _, fun e h => h, .inl ⟨rfl, rfl, rfl⟩⟩
  case round =>
    obtain ⟨rest, q, acc, rfl, rfl, hrep, hLr, hk, hb, hel, hacc⟩ := hrel
    cases q with
    | none =>
      have hn := rep_list_none hrep
      have hend : 91 :: (acc ++ [93]) = text v := by
        rw [text_list v HL.out]
        rcases hacc with ⟨h1, h2, _⟩ | ⟨_, h2⟩
        · rw [← h1, hn, h2]; rfl
        · rw [← h2, hn]; simp [sepInner]
      have HE : Hid (91 :: (acc ++ [93]) = text v) := hend
      have hal : acc.length ≤ 1000 := by rw [← hend] at hs; simp at hs; omega
      clear hend hacc hn
      go_wp2
      go_ret
      exact ⟨by rw [← HE.out]; simp, hb⟩
    | some q =>
      obtain ⟨l, r, b, y, q', rfl, hLr', rfl, hbk, hl, hr⟩ := rep_list_some hrep
      have hlen : acc.length + (text l).length ≤ 998 := by
        rw [text_list v HL.out] at hs
        simp at hs
        rcases hacc with ⟨h1, h2, _⟩ | ⟨_, h2⟩
        · rw [← h1, inner_cons] at hs; simp at hs; simp [h2]; omega
        · rw [← h2] at hs; simp [sepInner, inner_cons] at hs; omega
      have c0 : wr.cell? ⟨b, 0, none⟩ = some y := by simp [World.cell?, hbk]
      have hlt := lt_of_heap hbk
      have hsh := HX.out l (hel l (by simp [elems])) wr y hl
      have hel' : ∀ e ∈ elems r, e ∈ elems v := fun e he => hel e (by simp [elems, he])
      have HEL : Hid (∀ e ∈ elems r, e ∈ elems v) := hel'
      clear hel hel'
      rcases hacc with ⟨h1, rfl, rfl⟩ | ⟨h1, h2⟩
      · subst h1
        have heq := eql_list_same b
        go_wp2_with (refine wpList_show rfl _ _ rfl y rfl _ hsh ?_; intro w1 hb1; have c1 : w1.cell? ⟨b, 1, none⟩ = some (.pointer q') := (by rw [hb1.cell (p := ⟨b, 1, none⟩) hlt]; simp [World.cell?, hbk]))
        go_roundg (size r)
        case measure => rw [hk]; simp [size]; omega
        case rel =>
          exact ⟨r, q', text l, rfl, rfl, hr.below hb1, hLr', rfl, hb.trans (hb1.mono hb.size), HEL.out, .inr ⟨by simp [size]; omega, (inner_cons l r).symm⟩⟩
      · obtain ⟨p0, rfl⟩ : ∃ a, p = some a := by
          cases p with
          | none => have := rep_list_none hv; subst this; simp [size] at h1
          | some a => exact ⟨a, rfl⟩
        obtain ⟨l0, r0, b0, y0, q0, hv0, _, rfl, hb0, _, _⟩ := rep_list_some hv
        have hne : b ≠ b0 := by
          intro e
          subst e
          have := Rep.inj hrep (hv.below hb)
          rw [← this] at h1
          omega
        have hb0' := (hb.block b0 (lt_of_heap hb0)).trans hb0
        have H2 : Hid (acc ++ sepInner (vcons l r) = inner v) := h2
        have H0 : Hid (v = vcons l0 r0) := hv0
        clear h2 hv0 hrep hv
        go_wp2_with (refine wpList_show rfl _ _ rfl y rfl _ hsh ?_; intro w1 hb1; have c1 : w1.cell? ⟨b, 1, none⟩ = some (.pointer q') := (by rw [hb1.cell (p := ⟨b, 1, none⟩) hlt]; simp [World.cell?, hbk]); have heq := eql_list_other hne ((hb1.block b hlt).trans hbk) ((hb1.block b0 (lt_of_heap hb0')).trans hb0'))
        go_roundg (size r)
        case measure => rw [hk]; simp [size]; omega
        case rel =>
          exact ⟨r, q', acc ++ 32 :: text l, rfl, by simp, hr.below hb1, hLr', rfl, hb.trans (hb1.mono hb.size), HEL.out, .inr ⟨by simp [size] at h1; omega, by rw [← H2.out]; simp [sepInner, inner_cons]⟩⟩

/-- EVERY VALUE SHOWS ITS TEXT. -/
theorem shows_upto : ∀ (n : Nat) (v : V) (w : World) (x : Value), size v < n → Rep w v x → (text v).length ≤ 1000 → ShowsAt w x (text v) := by
  intro n
  induction n with
  | zero => intro v w x h; omega
  | succ n ih =>
    intro v w x hn h hs
    have hlist : ∀ p, isL v = true → x = .iface 84 (.pointer p) → ShowsAt w x (text v) := fun p hL hx => by
      subst hx
      refine ⟨_, _, inv_show_list _ _, show_list v p hL h hs fun e he w' x' hr => ih e w' x' (by have := elem_size v e he; omega) hr ?_⟩
      have h1 := elem_text h e he
      rw [text_list v hL] at hs
      simp at hs
      omega
    rcases rep_cases h with ⟨rfl, rfl⟩ | ⟨k, rfl, hk, rfl⟩ | ⟨s, rfl, rfl⟩ | ⟨l, r, b, y, q, rfl, hL, rfl, hb, h1, h2⟩ | ⟨l, r, b, y, q, rfl, rfl, hb, h1, h2⟩
    · exact hlist _ rfl rfl
    · exact ⟨_, _, inv_show_int _ _, show_int k hk w⟩
    · rw [text_str] at hs
      simp at hs
      exact ⟨_, _, inv_show_str _ _, show_str s (by omega) w⟩
    · exact hlist _ rfl rfl
    · rw [text_pair] at hs
      simp at hs
      simp [size] at hn
      exact ⟨_, _, inv_show_pair _ _, show_pair (s := text l) (t := text r) hb (by omega) (by omega) (ih l w y (by omega) h1 (by omega)) (fun w' hw => ih r w' q (by omega) (h2.below hw) (by omega))⟩
theorem shows {v : V} {w : World} {x : Value} (h : Rep w v x) (hs : (text v).length ≤ 1000) : ShowsAt w x (text v) := shows_upto (size v + 1) v w x (by omega) h hs
end Go.Proofs.Qxb6500606a
