/- What is kept of a text: plain laws. -/
import Derived.Test.YtblpmjbddpadcaaZTickS
import Derived.Laws.Bits64
import Derived.Laws.BitsLemmas
set_option linter.unusedVariables false
set_option linter.unusedSimpArgs false
namespace Go.Mo
theorem ints_one (k : IntKind) (l : List Int) : ∀ u ∈ l.map (Value.int k), u.oneCell' = true := by
  intro u hu
  obtain ⟨n, _, rfl⟩ := List.mem_map.1 hu
  rfl
def u64N (x : Int) : Nat := (x % 18446744073709551616).toNat
theorem u64_wrapN (x : Int) : IntKind.u64.wrap x = (u64N x : Int) := by rw [IntKind.wrap_u64, u64N]; omega
theorem u64N_lt (x : Int) : u64N x < 18446744073709551616 := by rw [u64N]; omega
theorem u64N_pos {x : Int} (h : 0 ≤ x) (h2 : x < 18446744073709551616) : u64N x = x.toNat := by rw [u64N, Int.emod_eq_of_lt h h2]
theorem splice_left {α : Type} (A B : List α) (k : Nat) (vs : List α) (h : k + vs.length ≤ A.length) : splice (A ++ B) k vs = splice A k vs ++ B := by
  simp only [splice]
  rw [List.take_append_of_le_length (by omega), List.drop_append_of_le_length (by omega)]
  simp only [List.append_assoc]
end Go.Mo
