/- Counts by whole number: a map's entries, read and put. -/
import Derived.Test.YtpagpmioopaciaaQBinU
set_option linter.unusedVariables false
set_option linter.unusedSimpArgs false
namespace Go.Mo
open Go.RowKit Go.Lib
variable {P : Program} {n : Nat} {ops : Array Oper} {f : Fm} {w w0 : World} {S : List Nat} {H : List Res} {K : Fm → World → Prop} {o : Oper} {rest : List Oper} {d : Nat} {x y z : Operand}
def cniI (s : Int) : List (Int × Int) → List (Int × Int)
  | [] => [(s, 1)]
  | q :: l => if q.1 = s then (q.1, q.2 + 1) :: l else q :: cniI s l
def tally (a : List (Int × Int)) (l : List Int) : List (Int × Int) := l.foldl (fun a t => cniI t a) a
def useM (l : List CV) : List (Int × Int) := l.foldl (fun a x => tally a x.1.texts) []
theorem cvC_one {w : World} {x : CV} (h : Sl w x.2.1 1 x.1.holds.length (x.1.holds.map Value.string) ∧ Sl w x.2.2 1 x.1.texts.length (x.1.texts.map (Value.int .i64))) : ∀ u ∈ cvC x, u.oneCell' = true := by
  obtain ⟨c, hv, tv⟩ := x
  simp only at h
  obtain ⟨h1, h2⟩ := h
  obtain ⟨A, ch, rfl⟩ := sl_shape h1
  obtain ⟨B, ct, rfl⟩ := sl_shape h2
  exact clipC_one _ _ _ _ _ _ _
end Go.Mo
