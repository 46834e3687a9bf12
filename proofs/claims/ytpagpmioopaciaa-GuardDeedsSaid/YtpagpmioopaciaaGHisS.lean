/- What records tell of a clip: states, holds, clips: plain laws. -/
import Derived.Test.YtpagpmioopaciaaGAudS
import Derived.Test.YtpagpmioopaciaaGBinS
set_option linter.unusedVariables false
set_option linter.unusedSimpArgs false
namespace Go.Mo
open Go.RowKit Go.Lib
structure HS where
  holds : List ByteArray
  fired : Bool
  event : Int
  gone : Bool
  actor : ByteArray
  reason : ByteArray
def eraseF : List ByteArray → ByteArray → List ByteArray
  | [], _ => []
  | y :: l, x => if y = x then l else y :: eraseF l x
def hHold (h : List ByteArray) (r : Rec) : List ByteArray := if r.kind = 3 then (if r.reason ∈ h then h else h ++ [r.reason]) else if r.kind = 4 then eraseF h r.reason else h
def hR (m : List Rec) : List ByteArray := m.foldl hHold []
end Go.Mo
