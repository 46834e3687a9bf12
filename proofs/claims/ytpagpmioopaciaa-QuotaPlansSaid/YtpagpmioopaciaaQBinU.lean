/- How many clips have a text: plain laws. -/
import Derived.Test.YtpagpmioopaciaaQBinG
set_option linter.unusedVariables false
namespace Go.Mo
open Go.RowKit Go.Lib
/-- A clip with the slices of its holds and its texts. -/
abbrev CV := Clp × Value × Value
def cvC (x : CV) : List Value := clipC x.1 x.2.1 x.2.2
theorem cvC_len (x : CV) : (cvC x).length = 39 := clipC_len _ _ _
def cvAt (l : List CV) (i : Nat) : CV := l.getD i (clpZ, .slice none 0 0, .slice none 0 0)
theorem cvAt_some {l : List CV} {i : Nat} (h : i < l.length) : l[i]? = some (cvAt l i) := by rw [cvAt, List.getD_eq_getElem?_getD, List.getElem?_eq_getElem h]; rfl
/-- What the slices of clips bear. -/
def cvSl (w : World) (l : List CV) : Prop := ∀ x ∈ l, Sl w x.2.1 1 x.1.holds.length (x.1.holds.map Value.string) ∧ Sl w x.2.2 1 x.1.texts.length (x.1.texts.map (Value.int .i64))
end Go.Mo
