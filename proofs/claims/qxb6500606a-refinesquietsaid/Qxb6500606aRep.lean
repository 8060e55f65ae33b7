/-
  WHAT A Go VALUE OF TYPE vals.Value IN MEMORY STANDS FOR; what keeps it.
-/
import Derived.Test.Qxb6500606aItoa
namespace Go.Proofs.Qxb6500606a
open Go.ChangeShapes Go.WideShapes Go.ChangeAt Go.RowKit

theorem hide {p : Prop} (h : p) : Hid p := h
theorem str_size (l : List UInt8) : (str l).size = l.length := by simp [str, ByteArray.size]
theorem str_app (a b : List UInt8) : str a ++ str b = str (a ++ b) := by
  apply ByteArray.ext
  simp [str]
theorem str_app1 (a : List UInt8) (c : UInt8) : str a ++ { data := #[c] } = str (a ++ [c]) := str_app a [c]
theorem str_1app (a : List UInt8) (c : UInt8) : { data := #[c] } ++ str a = str (c :: a) := str_app [c] a

theorem str_toList (a : List UInt8) : (str a).toList = a := by unfold str; simp

/-- In world w the interface value x stands for v. -/
def Rep (w : World) : V → Value → Prop
  | .nil, x => x = .iface 84 (.pointer none)
  | .node t o a l r, x =>
    (t = 1 ∧ o = 0 ∧ a.2 = [] ∧ l = .nil ∧ r = .nil ∧ I64 a.1 ∧ x = .iface 82 (.int .i64 a.1)) ∨
    (t = 2 ∧ o = 0 ∧ a.1 = 0 ∧ l = .nil ∧ r = .nil ∧ x = .iface 83 (.string (str a.2))) ∨
    (t = 3 ∧ o = 0 ∧ a = (0, []) ∧ isL r = true ∧ ∃ b h q, x = .iface 84 (.pointer (some ⟨b, 0, none⟩)) ∧ w.heap[b]? = some (.cells #[h, .pointer q] 89) ∧ Rep w l h ∧ Rep w r (.iface 84 (.pointer q))) ∨
    (t = 4 ∧ o = 0 ∧ a = (0, []) ∧ ∃ b h q, x = .iface 90 (.pointer (some ⟨b, 0, none⟩)) ∧ w.heap[b]? = some (.cells #[h, q] 92) ∧ Rep w l h ∧ Rep w r q)

theorem rep_nil {w : World} : Rep w vnil (.iface 84 (.pointer none)) := rfl
theorem rep_int {w : World} {n : Int} (h : I64 n) : Rep w (vint n) (.iface 82 (.int .i64 n)) := .inl ⟨rfl, rfl, rfl, rfl, rfl, h, rfl⟩
theorem rep_str {w : World} (s : List UInt8) : Rep w (vstr s) (.iface 83 (.string (str s))) := .inr (.inl ⟨rfl, rfl, rfl, rfl, rfl, rfl⟩)
theorem rep_cons {w : World} {l r : V} {b : Nat} {h : Value} {q : Option Addr} (hL : isL r = true) (hb : w.heap[b]? = some (.cells #[h, .pointer q] 89)) (h1 : Rep w l h) (h2 : Rep w r (.iface 84 (.pointer q))) :
    Rep w (vcons l r) (.iface 84 (.pointer (some ⟨b, 0, none⟩))) := .inr (.inr (.inl ⟨rfl, rfl, rfl, hL, b, h, q, rfl, hb, h1, h2⟩))
theorem rep_pair {w : World} {l r : V} {b : Nat} {h q : Value} (hb : w.heap[b]? = some (.cells #[h, q] 92)) (h1 : Rep w l h) (h2 : Rep w r q) :
    Rep w (vpair l r) (.iface 90 (.pointer (some ⟨b, 0, none⟩))) := .inr (.inr (.inr ⟨rfl, rfl, rfl, b, h, q, rfl, hb, h1, h2⟩))

/-- The four kinds (a list: nil or a cell). -/
theorem rep_cases {w : World} {v : V} {x : Value} (h : Rep w v x) :
    (v = .nil ∧ x = .iface 84 (.pointer none)) ∨
    (∃ n, v = vint n ∧ I64 n ∧ x = .iface 82 (.int .i64 n)) ∨
    (∃ s, v = vstr s ∧ x = .iface 83 (.string (str s))) ∨
    (∃ l r b y q, v = vcons l r ∧ isL r = true ∧ x = .iface 84 (.pointer (some ⟨b, 0, none⟩)) ∧ w.heap[b]? = some (.cells #[y, .pointer q] 89) ∧ Rep w l y ∧ Rep w r (.iface 84 (.pointer q))) ∨
    (∃ l r b y q, v = vpair l r ∧ x = .iface 90 (.pointer (some ⟨b, 0, none⟩)) ∧ w.heap[b]? = some (.cells #[y, q] 92) ∧ Rep w l y ∧ Rep w r q) := by
  cases v with
  | nil => exact .inl ⟨rfl, h⟩
  | node t o a l r =>
    obtain ⟨n, s⟩ := a
    rcases h with ⟨rfl, rfl, hs, rfl, rfl, hi, rfl⟩ | ⟨rfl, rfl, hs, rfl, rfl, rfl⟩ | ⟨rfl, rfl, ha, hL, b, y, q, rfl, hb, h1, h2⟩ | ⟨rfl, rfl, ha, b, y, q, rfl, hb, h1, h2⟩
    · dsimp only at hs; subst hs; exact .inr (.inl ⟨n, rfl, hi, rfl⟩)
    · dsimp only at hs; subst hs; exact .inr (.inr (.inl ⟨s, rfl, rfl⟩))
    · cases ha; exact .inr (.inr (.inr (.inl ⟨l, r, b, y, q, rfl, hL, rfl, hb, h1, h2⟩)))
    · cases ha; exact .inr (.inr (.inr (.inr ⟨l, r, b, y, q, rfl, rfl, hb, h1, h2⟩)))

/-- The types of what is never written once made: lists' cells, pairs, the boxes of an iterator's receiver. -/
def still (t : TypeId) : Prop := t = 89 ∨ t = 92 ∨ t = 84 ∨ t = 90
/-- Such blocks lie as they lay. -/
def KeepsV (w w' : World) : Prop := ∀ (b : Nat) (c : Array Value) (t : TypeId), still t → w.heap[b]? = some (.cells c t) → w'.heap[b]? = some (.cells c t)
theorem KeepsV.refl (w : World) : KeepsV w w := fun _ _ _ _ h => h
theorem KeepsV.trans {a b c : World} (h : KeepsV a b) (k : KeepsV b c) : KeepsV a c := fun i x t ht e => k i x t ht (h i x t ht e)
theorem lt_of_heap {w : World} {b : Nat} {o : Obj} (h : w.heap[b]? = some o) : b < w.heap.size := by
  rcases Nat.lt_or_ge b w.heap.size with h1 | h1
  · exact h1
  · rw [Array.getElem?_eq_none h1] at h; cases h
theorem KeepsV.of_below {w w' : World} (h : Below w.heap.size w w') : KeepsV w w' := fun b _ _ _ e => (h.block b (lt_of_heap e)).trans e

theorem Rep.keep {w w' : World} (hk : KeepsV w w') : ∀ {v : V} {x : Value}, Rep w v x → Rep w' v x := by
  intro v
  induction v with
  | nil => intro x h; exact h
  | node t o a l r ihl ihr =>
    intro x h
    rcases h with h | h | ⟨h1, h2, h3, h4, b, y, q, h5, h6, h7, h8⟩ | ⟨h1, h2, h3, b, y, q, h5, h6, h7, h8⟩
    · exact .inl h
    · exact .inr (.inl h)
    · exact .inr (.inr (.inl ⟨h1, h2, h3, h4, b, y, q, h5, hk b _ _ (.inl rfl) h6, ihl h7, ihr h8⟩))
    · exact .inr (.inr (.inr ⟨h1, h2, h3, b, y, q, h5, hk b _ _ (.inr (.inl rfl)) h6, ihl h7, ihr h8⟩))
theorem Rep.below {w w' : World} {v : V} {x : Value} (h : Rep w v x) (hb : Below w.heap.size w w') : Rep w' v x := h.keep (.of_below hb)

theorem elem_text {w : World} : ∀ {v : V} {p : Option Addr}, Rep w v (.iface 84 (.pointer p)) → ∀ e ∈ elems v, (text e).length ≤ (inner v).length := by
  intro v
  induction v with
  | nil => intro p _ e h; cases h
  | node t o a l r ihl ihr =>
    intro p h e he
    rcases rep_cases h with ⟨hv, _⟩ | ⟨n, _, _, hx⟩ | ⟨s, _, hx⟩ | ⟨l1, r1, b, y, q, hv, hL, hx, hb, h1, h2⟩ | ⟨l1, r1, b, y, q, _, hx, _⟩
    · cases hv
    · simp at hx
    · simp at hx
    · cases hv
      rw [elems_cons, List.mem_cons] at he
      rw [inner_cons]
      rcases he with rfl | he
      · simp
      · have := ihr h2 e he
        have h3 : r ≠ .nil := by intro e; subst e; cases he
        cases r with
        | nil => exact absurd rfl h3
        | node => simp [sepInner]; omega
    · simp at hx

theorem str_inj {a b : List UInt8} (h : str a = str b) : a = b := by
  have h1 : (str a).data = (str b).data := by rw [h]
  simpa [str] using h1

/-- What x stands for in w is one. -/
theorem Rep.inj {w : World} : ∀ {v v' : V} {x : Value}, Rep w v x → Rep w v' x → v = v' := by
  intro v
  induction v with
  | nil =>
    intro v' x h h'
    obtain rfl : x = .iface 84 (.pointer none) := h
    rcases rep_cases h' with ⟨rfl, _⟩ | ⟨n, rfl, _, h⟩ | ⟨s, rfl, h⟩ | ⟨l, r, b, y, q, rfl, _, h, _⟩ | ⟨l, r, b, y, q, rfl, h, _⟩
    · rfl
    all_goals simp at h
  | node t o a l r ihl ihr =>
    intro v' x h h'
    rcases rep_cases h with ⟨hv, _⟩ | ⟨n, hv, _, rfl⟩ | ⟨s, hv, rfl⟩ | ⟨l1, r1, b, y, q, hv, _, rfl, hb, h1, h2⟩ | ⟨l1, r1, b, y, q, hv, rfl, hb, h1, h2⟩
    · cases hv
    · rcases rep_cases h' with ⟨rfl, hx⟩ | ⟨n', rfl, _, hx⟩ | ⟨s', rfl, hx⟩ | ⟨l2, r2, b2, y2, q2, rfl, _, hx, _⟩ | ⟨l2, r2, b2, y2, q2, rfl, hx, _⟩ <;> simp at hx
      rw [hv, hx]
    · rcases rep_cases h' with ⟨rfl, hx⟩ | ⟨n', rfl, _, hx⟩ | ⟨s', rfl, hx⟩ | ⟨l2, r2, b2, y2, q2, rfl, _, hx, _⟩ | ⟨l2, r2, b2, y2, q2, rfl, hx, _⟩ <;> simp at hx
      rw [hv, str_inj hx]
    · rcases rep_cases h' with ⟨rfl, hx⟩ | ⟨n', rfl, _, hx⟩ | ⟨s', rfl, hx⟩ | ⟨l2, r2, b2, y2, q2, rfl, _, hx, hb2, h3, h4⟩ | ⟨l2, r2, b2, y2, q2, rfl, hx, _⟩ <;> simp at hx
      subst hx
      rw [hb] at hb2
      simp at hb2
      obtain ⟨rfl, rfl⟩ := hb2
      cases hv
      rw [ihl h1 h3, ihr h2 h4]
    · rcases rep_cases h' with ⟨rfl, hx⟩ | ⟨n', rfl, _, hx⟩ | ⟨s', rfl, hx⟩ | ⟨l2, r2, b2, y2, q2, rfl, _, hx, hb2, h3, h4⟩ | ⟨l2, r2, b2, y2, q2, rfl, hx, hb2, h3, h4⟩ <;> simp at hx
      subst hx
      rw [hb] at hb2
      simp at hb2
      obtain ⟨rfl, rfl⟩ := hb2
      cases hv
      rw [ihl h1 h3, ihr h2 h4]
end Go.Proofs.Qxb6500606a
