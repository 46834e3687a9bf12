/- What is kept of a text: plain laws. -/
import Derived.Test.YtpagpmioopaciaaGTickS
import Derived.Laws.Bits64
import Derived.Laws.BitsLemmas
set_option linter.unusedVariables false
set_option linter.unusedSimpArgs false
namespace Go.Mo
def u64N (x : Int) : Nat := (x % 18446744073709551616).toNat
theorem u64N_pos {x : Int} (h : 0 ≤ x) (h2 : x < 18446744073709551616) : u64N x = x.toNat := by rw [u64N, Int.emod_eq_of_lt h h2]
end Go.Mo
