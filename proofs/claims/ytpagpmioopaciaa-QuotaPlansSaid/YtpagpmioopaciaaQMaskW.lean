/- Masks: what the examples of the laws come to. -/
import Derived.Test.YtpagpmioopaciaaQMaskS
set_option linter.unusedVariables false
set_option linter.unusedSimpArgs false
namespace Go.Mo
open Go.RowKit Go.Lib
end Go.Mo
