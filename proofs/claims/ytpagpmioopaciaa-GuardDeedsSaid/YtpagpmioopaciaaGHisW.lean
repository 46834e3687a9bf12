/- What records tell: how long, how often, by whom; the example of the laws. -/
import Derived.Test.YtpagpmioopaciaaGHisS
import Derived.Test.YtpagpmioopaciaaGAudW
import Derived.Test.YtpagpmioopaciaaGShfS
set_option linter.unusedVariables false
set_option linter.unusedSimpArgs false
namespace Go.Mo
open Go.RowKit Go.Lib
theorem run_equalIn_fnil {P : Program} (d : Nat) {w : World} {T : TypeId} {a : Fn} {b c : Array Value} {p q : Array TypeId} {r : Bool} (hT : P.underlying T = some (.func p q r)) : (Op.equalIn (d + 1) T (.func a b c) .nilFunc).run P w = .ok false w := by
  simp [Op.equalIn, run_underlying hT]
theorem bo_fnil {P : Program} {x y : Operand} {w : World} {T : TypeId} {a : Fn} {b c : Array Value} {p q : Array TypeId} {r : Bool} (hT : P.underlying T = some (.func p q r)) : Bo P .eql T x y (.func a b c) .nilFunc w (.bool false) :=
  bo_of (by simp [eqGuard, Sem.run]) (by simp only [binOp]; simp [show (Op.equal T (.func a b c) .nilFunc).run P w = .ok false w from run_equalIn_fnil 9999 hT])
end Go.Mo
