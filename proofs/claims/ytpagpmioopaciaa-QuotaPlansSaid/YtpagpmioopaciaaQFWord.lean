/- Walks of functions of the program. -/
import Derived.Test.YtpagpmioopaciaaQActs
import Derived.Test.YtpagpmioopaciaaQTypes
import Derived.Test.YtpagpmioopaciaaQWordS
set_option linter.unusedVariables false
set_option linter.unusedSimpArgs false
namespace Go.Proofs.Ytpagpmioopaciaa
open Go.Mo Go.RowKit
end Go.Proofs.Ytpagpmioopaciaa
