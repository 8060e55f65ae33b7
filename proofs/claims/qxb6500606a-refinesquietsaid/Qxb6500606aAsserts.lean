/-
  ASSERTIONS on a vals.Value: to the four capabilities, to the kinds; comma-ok and bare.
-/
import Derived.Test.Qxb6500606aCareful2
import Derived.Stop.Asserts
namespace Go.Proofs.Qxb6500606a
open Go.ChangeShapes Go.WideShapes Go.ChangeAt Go.RowKit
set_option linter.unusedVariables false

theorem kind_int (n : Int) : kind (vint n) = 1 := rfl
theorem kind_str (s : List UInt8) : kind (vstr s) = 2 := rfl
theorem kind_cons (h t : V) : kind (vcons h t) = 3 := rfl
theorem kind_pair (a b : V) : kind (vpair a b) = 4 := rfl

section
variable {w : World} {v : V} {x : Value}
theorem as_neg (h : Rep w v x) (W : World) : (Instr.typeAssert x 60 96 true).run Try.prog W = .ok (if canNeg v then .tuple #[x, .bool true] else .tuple #[.nilIface, .bool false]) W := by
  rcases rep_cases h with ⟨rfl, rfl⟩ | ⟨n, rfl, _, rfl⟩ | ⟨s, rfl, rfl⟩ | ⟨l, r, b, y, q, rfl, _, rfl, _⟩ | ⟨l, r, b, y, q, rfl, rfl, _⟩
  · exact run_typeAssert_lacksB Try.underlying96 (by kernel_rfl) (by kernel_rfl) _ _ W
  · exact run_typeAssert_hasB Try.underlying96 (by kernel_rfl) _ _ W
  · exact run_typeAssert_lacksB Try.underlying96 (by kernel_rfl) (by kernel_rfl) _ _ W
  · exact run_typeAssert_lacksB Try.underlying96 (by kernel_rfl) (by kernel_rfl) _ _ W
  · exact run_typeAssert_hasB Try.underlying96 (by kernel_rfl) _ _ W
theorem as_len (h : Rep w v x) (W : World) : (Instr.typeAssert x 60 100 true).run Try.prog W = .ok (if canLen v then .tuple #[x, .bool true] else .tuple #[.nilIface, .bool false]) W := by
  rcases rep_cases h with ⟨rfl, rfl⟩ | ⟨n, rfl, _, rfl⟩ | ⟨s, rfl, rfl⟩ | ⟨l, r, b, y, q, rfl, _, rfl, _⟩ | ⟨l, r, b, y, q, rfl, rfl, _⟩
  · exact run_typeAssert_hasB Try.underlying100 (by kernel_rfl) _ _ W
  · exact run_typeAssert_lacksB Try.underlying100 (by kernel_rfl) (by kernel_rfl) _ _ W
  · exact run_typeAssert_hasB Try.underlying100 (by kernel_rfl) _ _ W
  · exact run_typeAssert_hasB Try.underlying100 (by kernel_rfl) _ _ W
  · exact run_typeAssert_hasB Try.underlying100 (by kernel_rfl) _ _ W
theorem as_iter (h : Rep w v x) (W : World) : (Instr.typeAssert x 60 103 true).run Try.prog W = .ok (if canIter v then .tuple #[x, .bool true] else .tuple #[.nilIface, .bool false]) W := by
  rcases rep_cases h with ⟨rfl, rfl⟩ | ⟨n, rfl, _, rfl⟩ | ⟨s, rfl, rfl⟩ | ⟨l, r, b, y, q, rfl, _, rfl, _⟩ | ⟨l, r, b, y, q, rfl, rfl, _⟩
  · exact run_typeAssert_hasB Try.underlying103 (by kernel_rfl) _ _ W
  · exact run_typeAssert_lacksB Try.underlying103 (by kernel_rfl) (by kernel_rfl) _ _ W
  · exact run_typeAssert_lacksB Try.underlying103 (by kernel_rfl) (by kernel_rfl) _ _ W
  · exact run_typeAssert_hasB Try.underlying103 (by kernel_rfl) _ _ W
  · exact run_typeAssert_hasB Try.underlying103 (by kernel_rfl) _ _ W
theorem as_add (h : Rep w v x) (W : World) : (Instr.typeAssert x 60 119 true).run Try.prog W = .ok (if canAdd v then .tuple #[x, .bool true] else .tuple #[.nilIface, .bool false]) W := by
  rcases rep_cases h with ⟨rfl, rfl⟩ | ⟨n, rfl, _, rfl⟩ | ⟨s, rfl, rfl⟩ | ⟨l, r, b, y, q, rfl, _, rfl, _⟩ | ⟨l, r, b, y, q, rfl, rfl, _⟩
  · exact run_typeAssert_hasB Try.underlying119 (by kernel_rfl) _ _ W
  · exact run_typeAssert_hasB Try.underlying119 (by kernel_rfl) _ _ W
  · exact run_typeAssert_hasB Try.underlying119 (by kernel_rfl) _ _ W
  · exact run_typeAssert_hasB Try.underlying119 (by kernel_rfl) _ _ W
  · exact run_typeAssert_lacksB Try.underlying119 (by kernel_rfl) (by kernel_rfl) _ _ W
end
theorem as_neg_nil (W : World) : (Instr.typeAssert .nilIface 60 96 true).run Try.prog W = .ok (.tuple #[.nilIface, .bool false]) W := by kernel_rfl
theorem as_len_nil (W : World) : (Instr.typeAssert .nilIface 60 100 true).run Try.prog W = .ok (.tuple #[.nilIface, .bool false]) W := by kernel_rfl
theorem as_iter_nil (W : World) : (Instr.typeAssert .nilIface 60 103 true).run Try.prog W = .ok (.tuple #[.nilIface, .bool false]) W := by kernel_rfl
theorem as_add_nil (W : World) : (Instr.typeAssert .nilIface 60 119 true).run Try.prog W = .ok (.tuple #[.nilIface, .bool false]) W := by kernel_rfl
theorem as_list_nil (W : World) : (Instr.typeAssert .nilIface 60 84 true).run Try.prog W = .ok (.tuple #[.pointer none, .bool false]) W := by kernel_rfl
theorem as_int_nil (W : World) : (Instr.typeAssert .nilIface 60 82 true).run Try.prog W = .ok (.tuple #[.int .i64 0, .bool false]) W := by kernel_rfl
section
variable {w : World} {v : V} {x : Value}
theorem as_list (h : Rep w v x) (hk : kind v = 3) : ∃ p, x = .iface 84 (.pointer p) ∧ isL v = true ∧ ∀ W, (Instr.typeAssert x 60 84 true).run Try.prog W = .ok (.tuple #[.pointer p, .bool true]) W := by
  rcases rep_cases h with ⟨rfl, rfl⟩ | ⟨n, rfl, _, rfl⟩ | ⟨s, rfl, rfl⟩ | ⟨l, r, b, y, q, rfl, _, rfl, _⟩ | ⟨l, r, b, y, q, rfl, rfl, _⟩
  · exact ⟨_, rfl, rfl, fun W => by kernel_rfl⟩
  · exact absurd hk (by simp [kind])
  · exact absurd hk (by simp [kind])
  · exact ⟨_, rfl, rfl, fun W => by kernel_rfl⟩
  · exact absurd hk (by simp [kind])
theorem as_list_no (h : Rep w v x) (hk : kind v ≠ 3) (W : World) : (Instr.typeAssert x 60 84 true).run Try.prog W = .ok (.tuple #[.pointer none, .bool false]) W := by
  rcases rep_cases h with ⟨rfl, rfl⟩ | ⟨n, rfl, _, rfl⟩ | ⟨s, rfl, rfl⟩ | ⟨l, r, b, y, q, rfl, _, rfl, _⟩ | ⟨l, r, b, y, q, rfl, rfl, _⟩
  · exact absurd rfl hk
  · kernel_rfl
  · kernel_rfl
  · exact absurd rfl hk
  · kernel_rfl
theorem as_int (h : Rep w v x) (hk : kind v = 1) : I64 (num v) ∧ v = vint (num v) ∧ x = .iface 82 (.int .i64 (num v)) ∧ ∀ W, (Instr.typeAssert x 60 82 true).run Try.prog W = .ok (.tuple #[.int .i64 (num v), .bool true]) W := by
  rcases rep_cases h with ⟨rfl, rfl⟩ | ⟨n, rfl, hn, rfl⟩ | ⟨s, rfl, rfl⟩ | ⟨l, r, b, y, q, rfl, _, rfl, _⟩ | ⟨l, r, b, y, q, rfl, rfl, _⟩
  · exact absurd hk (by simp [kind])
  · exact ⟨hn, rfl, rfl, fun W => by kernel_rfl⟩
  all_goals exact absurd hk (by simp [kind])
theorem as_int_no (h : Rep w v x) (hk : kind v ≠ 1) (W : World) : (Instr.typeAssert x 60 82 true).run Try.prog W = .ok (.tuple #[.int .i64 0, .bool false]) W := by
  rcases rep_cases h with ⟨rfl, rfl⟩ | ⟨n, rfl, hn, rfl⟩ | ⟨s, rfl, rfl⟩ | ⟨l, r, b, y, q, rfl, _, rfl, _⟩ | ⟨l, r, b, y, q, rfl, rfl, _⟩
  · kernel_rfl
  · exact absurd rfl hk
  all_goals kernel_rfl
end
end Go.Proofs.Qxb6500606a
