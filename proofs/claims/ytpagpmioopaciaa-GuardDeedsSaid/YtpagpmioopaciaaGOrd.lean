/- The order of texts: plain laws. -/
import Derived.Test.YtpagpmioopaciaaGShfS
set_option linter.unusedVariables false
set_option linter.unusedSimpArgs false
namespace Go.Mo
open Go.RowKit Go.Lib Go.Sort Go.Proofs
def ltS (p q : ByteArray) : Bool := Op.bytesLess p.toList q.toList
theorem bo_sgeq {P : Program} {x y : Operand} {w : World} {T : TypeId} {p q : ByteArray} : Bo P .geq T x y (.string p) (.string q) w (.bool (!ltS p q)) := bo_of guard_str (by simp [binOp, Op.stringOp, Sem.run, ltS])
theorem bo_sgtr {P : Program} {x y : Operand} {w : World} {T : TypeId} {p q : ByteArray} : Bo P .gtr T x y (.string p) (.string q) w (.bool (!(ltS p q || decide (p = q)))) := bo_of guard_str (by simp [binOp, Op.stringOp, Sem.run, ltS, toList_beq])
theorem ltS_eq (p q : ByteArray) : ltS p q = decide (p.data.toList < q.data.toList) := by rw [ltS, bytesLess_eq, ByteArray.toList_eq, ByteArray.toList_eq]
theorem leU_total (x y : List UInt8) : x ≤ y ∨ y ≤ x := List.le_total x y
theorem leU_trans {x y z : List UInt8} (h : x ≤ y) (k : y ≤ z) : x ≤ z := List.le_trans h k
theorem leU_anti {x y : List UInt8} (h : x ≤ y) (k : y ≤ x) : x = y := List.le_antisymm h k
theorem ltU_of {x y : List UInt8} (h : x ≤ y) (hne : ¬ x = y) : x < y := by
  apply Classical.byContradiction
  intro q
  exact hne (leU_anti h q)
theorem sortU_pairwise (z : List (List UInt8)) : (z.mergeSort fun x y => decide (x ≤ y)).Pairwise (· ≤ ·) := by
  have h := List.pairwise_mergeSort (le := fun x y : List UInt8 => decide (x ≤ y)) (fun a b c h k => decide_eq_true (leU_trans (of_decide_eq_true h) (of_decide_eq_true k))) (fun a b => by
    rcases leU_total a b with h | h
    · simp [h]
    · simp [h]) z
  exact h.imp fun h => of_decide_eq_true h
theorem data_back (b : ByteArray) : (⟨b.data.toList.toArray⟩ : ByteArray) = b := by cases b; simp
theorem sorted_eqU {l m : List (List UInt8)} (hp : l.Perm m) (h1 : l.Pairwise (· ≤ ·)) (h2 : m.Pairwise (· ≤ ·)) : l = m :=
  List.Perm.eq_of_pairwise (le := fun x y : List UInt8 => x ≤ y) (fun a b _ _ h k => leU_anti h k) h1 h2 hp
theorem ltS_tri {a b : ByteArray} (h : ltS a b = false) (hne : ¬ a = b) : ltS b a = true := by
  rw [ltS_eq, decide_eq_false_iff_not] at h
  rw [ltS_eq, decide_eq_true_eq]
  have h2 : b.data.toList ≤ a.data.toList := h
  refine ltU_of h2 fun e => hne ?_
  rw [← data_back a, ← data_back b, e]
theorem ltS_irr (a : ByteArray) : ltS a a = false := by
  rw [ltS_eq, decide_eq_false_iff_not]
  exact List.lt_irrefl _
theorem ltS_trans {a b c : ByteArray} (h : ltS a b = true) (k : ltS b c = true) : ltS a c = true := by
  rw [ltS_eq, decide_eq_true_eq] at h k ⊢
  exact List.lt_trans h k
theorem ltS_asym {a b : ByteArray} (h : ltS a b = true) : ltS b a = false := by
  cases k : ltS b a with
  | false => rfl
  | true => have := ltS_trans h k; rw [ltS_irr] at this; cases this
theorem ltS_ne {a b : ByteArray} (h : ltS a b = true) : ¬ a = b := by
  rintro rfl; rw [ltS_irr] at h; cases h
/-- Whatever the order in which they come: sorted, they are the rising list. -/
theorem sortS_of {xs l : List ByteArray} (hp : xs.Perm l) (hl : l.Pairwise fun a b => ltS a b = true) : sortS xs = l := by
  have h1 : (strL xs).mergeSort (fun x y => decide (x ≤ y)) = strL l := by
    refine sorted_eqU ((List.mergeSort_perm _ _).trans (hp.map _)) (sortU_pairwise _) ?_
    unfold strL
    rw [List.pairwise_map]
    refine hl.imp ?_
    intro a b hab
    rw [ltS_eq, decide_eq_true_eq] at hab
    exact List.le_of_lt hab
  rw [sortS, h1]
  unfold backS strL
  rw [List.map_map]
  exact (List.map_congr_left fun b _ => data_back b).trans (List.map_id l)
end Go.Mo
