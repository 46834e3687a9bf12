/- How many clips have a text: plain laws. -/
import Derived.Test.YtblpmjbddpadcaaZBinG
set_option linter.unusedVariables false
namespace Go.Mo
open Go.RowKit Go.Lib
/-- A clip with the slices of its holds and its texts. -/
abbrev CV := Clp × Value × Value
def cvC (x : CV) : List Value := clipC x.1 x.2.1 x.2.2
theorem cvC_len (x : CV) : (cvC x).length = 39 := clipC_len _ _ _
def cvAt (l : List CV) (i : Nat) : CV := l.getD i (clpZ, .slice none 0 0, .slice none 0 0)
theorem cvAt_some {l : List CV} {i : Nat} (h : i < l.length) : l[i]? = some (cvAt l i) := by rw [cvAt, List.getD_eq_getElem?_getD, List.getElem?_eq_getElem h]; rfl
theorem Sl.cvE {w : World} {g b m m' c : Nat} {l : List CV} (h : Sl w (.slice (some ⟨g, b, none⟩) m c) 39 m' (l.flatMap cvC)) (i : Nat) (hi : i < l.length) {j : Nat} {u : Value} (hj : (cvC (cvAt l i))[j]? = some u) : w.cell? ⟨g, b + i * 39 + j, none⟩ = some u :=
  h.elem cvC_len i j (by have := (List.getElem?_eq_some_iff.1 hj).1; rwa [cvC_len] at this) (cvAt_some hi) hj
theorem Sl.cvs {w : World} {A : Option Addr} {n c : Nat} {l : List CV} (h : Sl w (.slice A n c) 39 n (l.flatMap cvC)) : l.length = n := by
  have := h.len
  rw [flat_length cvC_len] at this
  omega
/-- What the slices of clips bear. -/
def cvSl (w : World) (l : List CV) : Prop := ∀ x ∈ l, Sl w x.2.1 1 x.1.holds.length (x.1.holds.map Value.string) ∧ Sl w x.2.2 1 x.1.texts.length (x.1.texts.map (Value.int .i64))
def useN (l : List CV) (t : Int) : Nat := (l.map fun x => x.1.texts.count t).sum
theorem useN_succ {l : List CV} {i : Nat} (h : i < l.length) (t : Int) : useN (l.take (i + 1)) t = useN (l.take i) t + (cvAt l i).1.texts.count t := by
  rw [useN, take_one (cvAt_some h), List.map_append, List.sum_append]; simp [useN]
theorem count_yes {l : List Int} {j : Nat} (h : j < l.length) : (l.take (j + 1)).count (intAt l j) = (l.take j).count (intAt l j) + 1 := by
  rw [take_one (intAt_some h), List.count_append]; simp
theorem count_no {l : List Int} {j : Nat} {t : Int} (h : j < l.length) (hn : ¬ intAt l j = t) : (l.take (j + 1)).count t = (l.take j).count t := by
  rw [take_one (intAt_some h), List.count_append]; simp [hn]
end Go.Mo
