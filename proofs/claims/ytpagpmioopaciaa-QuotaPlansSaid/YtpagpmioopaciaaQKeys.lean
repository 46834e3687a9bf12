/- Ranges over a map that lives outside; its keys in whatever order. -/
import Derived.Test.YtpagpmioopaciaaQRng
import Derived.Test.YtpagpmioopaciaaQMapS
set_option linter.unusedVariables false
set_option linter.unusedSimpArgs false
namespace Go.Mo
open Go.RowKit
open Go.ChangeMaps (setBlock)
variable {P : Program} {n : Nat} {ops : Array Oper} {f : Fm} {w w0 : World} {S : List Nat} {H : List Res} {K : Fm → World → Prop} {o : Oper} {rest : List Oper} {d : Nat} {x y z : Operand}
/-- What a range has come by, and what is left. -/
structure Came (A : AL) (q : AL) (seen : Array Nat) : Prop where
  perm : ∃ s : AL, (q ++ s).Perm A
  seen : seen = (q.map (·.2.2)).toArray
theorem Came.nil (A : AL) : Came A [] #[] := ⟨⟨A, List.Perm.refl _⟩, rfl⟩
theorem seen_iff {q : AL} {b : Nat} : ((q.map (·.2.2)).toArray.contains b) = true ↔ b ∈ q.map (·.2.2) := by
  rw [Array.contains_iff_mem]; simp
theorem Came.step {A q : AL} {seen : Array Nat} {e : MapEntry} (h : Came A q seen) (he : e ∈ (leftOf ⟨alE A⟩ seen).toList) : ∃ a : ByteArray × Value × Nat, a ∈ A ∧ e = { key := .string a.1, val := a.2.1, born := a.2.2 } ∧ Came A (q ++ [a]) (seen.push e.born) ∧ ∃ s : AL, (q ++ a :: s).Perm A := by
  obtain ⟨h1, h2⟩ := mem_left he
  obtain ⟨a, ha, rfl⟩ := List.mem_map.1 (show e ∈ A.map _ from h1)
  obtain ⟨⟨s, hs⟩, hseen⟩ := h
  rw [hseen] at h2
  have hnq : ¬ a ∈ q := fun hq => by
    have := seen_iff.2 (List.mem_map_of_mem (f := (·.2.2)) hq)
    rw [this] at h2; cases h2
  have has : a ∈ s := by
    rcases List.mem_append.1 (hs.mem_iff.2 ha) with q1 | q1
    · exact absurd q1 hnq
    · exact q1
  obtain ⟨u, v, rfl⟩ := List.append_of_mem has
  have hp : (q ++ a :: (u ++ v)).Perm A := (List.Perm.append_left q List.perm_middle.symm).trans hs
  refine ⟨a, ha, rfl, ⟨⟨u ++ v, by rw [List.append_assoc]; exact hp⟩, by rw [hseen]; simp⟩, ⟨u ++ v, hp⟩⟩
theorem Came.all {A q : AL} {seen : Array Nat} {c : Nat} (h : Came A q seen) (hA : AlOk A c) (h0 : (leftOf ⟨alE A⟩ seen).size = 0) : q.Perm A := by
  obtain ⟨⟨s, hs⟩, hseen⟩ := h
  have hnil : s = [] := by
    rcases s with _ | ⟨b, s⟩
    · rfl
    · exfalso
      have hb : b ∈ A := hs.mem_iff.1 (by simp)
      have hborn : (((q ++ b :: s).map (·.2.2))).Nodup := (hs.map _).nodup_iff.2 hA.born
      rw [List.map_append, List.nodup_append] at hborn
      have hnb : ¬ b.2.2 ∈ q.map (·.2.2) := fun hq => hborn.2.2 _ hq _ (by simp) rfl
      have hin : ({ key := .string b.1, val := b.2.1, born := b.2.2 } : MapEntry) ∈ (leftOf ⟨alE A⟩ seen).toList := by
        unfold leftOf
        rw [Array.toList_filter]
        refine List.mem_filter.2 ⟨List.mem_map.2 ⟨b, hb, rfl⟩, ?_⟩
        rw [hseen]
        cases hc : (q.map (·.2.2)).toArray.contains b.2.2 with
        | true => exact absurd (seen_iff.1 hc) hnb
        | false => rfl
      have hl : (leftOf ⟨alE A⟩ seen).toList.length = 0 := by simpa using h0
      rw [List.eq_nil_of_length_eq_zero hl] at hin
      cases hin
  rw [hnil, List.append_nil] at hs; exact hs
end Go.Mo
