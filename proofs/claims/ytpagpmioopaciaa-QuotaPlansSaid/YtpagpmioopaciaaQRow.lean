/- From what a row's statement says of its arguments to what the walks ask: slices that came in. -/
import Derived.Test.YtpagpmioopaciaaQActs
import Derived.WalkKit
import Derived.ProofKit
import Derived.OpenShut
import Derived.ShutString
import Derived.ChangeOld
import Derived.Below
import Derived.SizedLaws
import Derived.ChangeSlices
import Derived.Deep.Slices
set_option linter.unusedVariables false
set_option linter.unusedSimpArgs false
namespace Go.Mo
open Go.ChangeShapes Go.WideShapes Go.ChangeAt Go.RowKit
theorem wf_i64 {n : Int} (h : (Lit.int .i64 n).wf = true) : -9223372036854775808 ≤ n ∧ n ≤ 9223372036854775807 := by
  simp only [Lit.wf, Bool.and_eq_true, decide_eq_true_eq] at h
  have e1 : IntKind.min .i64 = -9223372036854775808 := by decide
  have e2 : IntKind.max .i64 = 9223372036854775807 := by decide
  rwa [e1, e2] at h
theorem calls_below {P : Program} {k : Nat} {args : Array Value} {w : World} {u : Value} (h : Does P k args w fun v w' => v = u ∧ Hp w [] w' []) : Calls P k args w fun e w' => e = .returned u ∧ Below w.heap.size w w' :=
  h.calls.mono fun e w' ⟨v, he, hv, hp⟩ => ⟨by rw [he, hv], hp.mod.toBelow⟩
end Go.Mo
