/-
  Extra at every k.
-/
import Derived.Test.Qxb6500606aPlay
import Derived.Test.Qxb6500606aEcho
import Derived.Test.Qxb6500606aQuot
namespace Go.Proofs.Qxb6500606a
theorem extra_all (k : Int) : ExtraAt k := by
  by_cases h3 : k = 3
  · subst h3
    intro h hok
    exact extra_word3 h hok _ fun W hW => echo_calls hW hok
  · by_cases h4 : k = 4
    · subst h4
      intro h hok
      exact extra_word4 h hok _ fun W hW => quot_calls hW hok
    · exact extra_at h3 h4
end Go.Proofs.Qxb6500606a
