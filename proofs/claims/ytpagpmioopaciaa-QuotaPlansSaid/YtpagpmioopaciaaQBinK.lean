/- A clip as a sector is read as it was, and a sector that is read as a clip is that clip's: plain laws. -/
import Derived.Test.YtpagpmioopaciaaQBinG
set_option linter.unusedVariables false
set_option linter.unusedSimpArgs false
namespace Go.Mo
open Go.RowKit Go.Lib
end Go.Mo
