/- A loop over a map: the iterator's block, its steps. Nothing of the program stands here. -/
import Derived.Test.YtpagpmioopaciaaQActs
import Derived.Maps.RangeRun
set_option linter.unusedVariables false
set_option linter.unusedSimpArgs false
namespace Go.Mo
open Go.RowKit
open Go.ChangeMaps (setBlock)
variable {P : Program} {n : Nat} {ops : Array Oper} {f : Fm} {w w0 : World} {S : List Nat} {H : List Res} {K : Fm → World → Prop} {o : Oper} {rest : List Oper} {d : Nat} {x y z : Operand}
end Go.Mo
