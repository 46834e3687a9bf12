/- The clock: plain laws. -/
import Derived.Test.YtpagpmioopaciaaQSealS
set_option linter.unusedVariables false
set_option linter.unusedSimpArgs false
namespace Go.Mo
inductive ClockM where
  | fixed (n : Int)
  | state (a b : Int)
  | none
instance : Inhabited ClockM := ⟨.none⟩
def ClockM.after (t : Int) : ClockM → Int
  | .fixed n => max t n
  | .state a _ => max t a
  | .none => t
theorem take_one {α : Type} {l : List α} {i : Nat} {x : α} (h : l[i]? = some x) : l.take (i + 1) = l.take i ++ [x] := by
  obtain ⟨hi, rfl⟩ := List.getElem?_eq_some_iff.1 h
  rw [List.take_succ_eq_append_getElem hi]
end Go.Mo
