/- What is kept of a text: plain laws. -/
import Derived.Test.YtpagpmioopaciaaQTickS
import Derived.Laws.Bits64
import Derived.Laws.BitsLemmas
set_option linter.unusedVariables false
set_option linter.unusedSimpArgs false
namespace Go.Mo
/-- The cells of a text: its address, its size, its slots, its bound. -/
def textC (a : List UInt8) (s : Int) (sv : Value) (b : Int) : List Value := bys a ++ [.int .i64 s, sv, .int .i64 b]
theorem textC_length {a : List UInt8} (h : a.length = 32) (s : Int) (sv : Value) (b : Int) : (textC a s sv b).length = 35 := by simp [textC, bys_length, h]
theorem txt32 {a : List UInt8} (h : a.length = 32) (s : Int) (sv : Value) (b : Int) : (textC a s sv b)[32]? = some (.int .i64 s) := by
  rw [textC, List.getElem?_append_right (by rw [bys_length]; omega), bys_length, h]; rfl
def countI (n : Int) : Int := if n < 1 then 0 else (n - 1) / 256 + 1
end Go.Mo
