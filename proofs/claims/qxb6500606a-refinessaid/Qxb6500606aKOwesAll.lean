/-
  Keeps: Owes, at every step. (Seat 606 alone.)
-/
import Derived.Test.Qxb6500606aKOwesA
import Derived.Test.Qxb6500606aKOwesB
import Derived.Test.Qxb6500606aKOwesC
import Derived.Test.Qxb6500606aKOwesD
import Derived.Test.Qxb6500606aKOwesE
import Derived.Test.Qxb6500606aKOwesF
import Derived.Test.Qxb6500606aKOwesH
namespace Go.Proofs.Qxb6500606a
set_option linter.unusedVariables false
theorem owes_calls {w : World} {G : Nat} {vs : St} (h : GhostAt w G vs) (hok : Okay vs) (hwf : ∀ v ∈ vs, Wf v) (k a b c : Int) (S T : List UInt8) (hb : I64 b) :
    Calls Try.prog 31 #[.pointer (some ⟨G, 0, none⟩), opV k a b c S T] w (OwesOut w vs ((doF k a b S vs).1.e, (doF k a b S vs).2)) := by
  by_cases hk : k < 1 ∨ 12 < k
  · have e : ((doF k a b S vs).1.e, (doF k a b S vs).2) = (0, vs) := by
      unfold doF
      repeat rw [if_neg (by omega)]
      repeat' split
      all_goals rfl
    rw [e]
    exact owes_none h hok hwf a b c S T k hk
  · obtain ⟨n, rfl⟩ : ∃ n : Nat, k = n := ⟨k.toNat, by omega⟩
    have hn : n = 1 ∨ n = 2 ∨ n = 3 ∨ n = 4 ∨ n = 5 ∨ n = 6 ∨ n = 7 ∨ n = 8 ∨ n = 9 ∨ n = 10 ∨ n = 11 ∨ n = 12 := by omega
    rcases hn with rfl | rfl | rfl | rfl | rfl | rfl | rfl | rfl | rfl | rfl | rfl | rfl
    · exact owes_push h hok hwf a b c S T hb
    · exact owes_cons h hok hwf a b c S T
    · exact owes_pair h hok hwf a b c S T
    · exact owes_add h hok hwf a b c S T
    · exact owes_neg h hok hwf a b c S T
    · exact owes_len h hok hwf a b c S T
    · exact owes_find h hok hwf a b c S T
    · exact owes_fold h hok hwf a b c S T
    · exact owes_dup h hok hwf a b c S T
    · exact owes_drop h hok hwf a b c S T
    · exact owes_topInt h hok hwf a b c S T
    · by_cases h3 : a = 3
      · subst h3; exact owes_echo h hok hwf b c S T
      · by_cases h4 : a = 4
        · subst h4; exact owes_quot h hok hwf b c S T
        · exact owes_extra0 h hok hwf a b c S T h3 h4
end Go.Proofs.Qxb6500606a
