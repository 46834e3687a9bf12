/- The clock: plain laws. -/
import Derived.Test.YtblpmjbddpadcaaZSealS
set_option linter.unusedVariables false
set_option linter.unusedSimpArgs false
namespace Go.Mo
theorem Sl.cellsB {w : World} {g T n c : Nat} {x : List UInt8} (h : (Go.Mo.cells g T (bys x)).at_ w) (hn : n ≤ x.length) (hc : n ≤ c) (hm : c ≤ maxLen) : Sl w (.slice (some ⟨g, 0, none⟩) n c) 1 (x.take n).length (bys (x.take n)) := by
  rw [List.length_take, Nat.min_eq_left hn]
  exact Sl.cells h 1 n c 0 _ (by rw [List.drop_zero, Nat.mul_one]; exact (bys_take _ _).symm) (by rw [bys_length]; omega) hc hm
theorem put_get : ∀ l : List UInt8, putL (getL l) l.length = l
  | [] => rfl
  | b :: l => by
    have hb := b.toNat_lt
    have e1 : UInt8.ofNat (b.toNat + 256 * getL l) = b := by
      apply UInt8.toNat_inj.1
      rw [UInt8.toNat_ofNat']
      omega
    have e2 : (b.toNat + 256 * getL l) / 256 = getL l := by omega
    rw [getL, List.length_cons, putL, e1, e2, put_get l]
theorem get_put {k n : Nat} (h : n < 256 ^ k) : getL (putL n k) = n := by rw [getL_put, Nat.mod_eq_of_lt h]
inductive ClockM where
  | fixed (n : Int)
  | state (a b : Int)
  | none
instance : Inhabited ClockM := ⟨.none⟩
def ClockM.after (t : Int) : ClockM → Int
  | .fixed n => max t n
  | .state a _ => max t a
  | .none => t
theorem take_one {α : Type} {l : List α} {i : Nat} {x : α} (h : l[i]? = some x) : l.take (i + 1) = l.take i ++ [x] := by
  obtain ⟨hi, rfl⟩ := List.getElem?_eq_some_iff.1 h
  rw [List.take_succ_eq_append_getElem hi]
end Go.Mo
