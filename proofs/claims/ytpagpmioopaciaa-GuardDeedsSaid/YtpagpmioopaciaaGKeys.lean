/- Ranges over a map that lives outside; its keys in whatever order. -/
import Derived.Test.YtpagpmioopaciaaGRng
import Derived.Test.YtpagpmioopaciaaGMapS
set_option linter.unusedVariables false
set_option linter.unusedSimpArgs false
namespace Go.Mo
open Go.RowKit
open Go.ChangeMaps (setBlock)
variable {P : Program} {n : Nat} {ops : Array Oper} {f : Fm} {w w0 : World} {S : List Nat} {H : List Res} {K : Fm → World → Prop} {o : Oper} {rest : List Oper} {d : Nat} {x y z : Operand}
theorem GL_rangeX {T Kt E : TypeId} {g : Nat} {es : Array MapEntry} {c : Nat} (hw : Wn n ops f o) (hd : o.dst = some d) (ho : o.op = .range T x) (hx : ev n f x = .map (some g)) (hT : P.underlying T = some (.map Kt E)) (hp : Hp w0 S w H) (hg : (Res.blk g (.map es c)).at_ w)
    (h : ∀ r w', w.heap.size ≤ r → r < w'.heap.size → Mod [] w w' → Hp w0 S w' (.blk r (.mapIter (some g) c #[] c) :: H) → GL P n ops rest (upd f d (.pointer (some ⟨r, 0, none⟩))) w' K) : GL P n ops (o :: rest) f w K := by
  have hg' : w.heap[g]? = some (.map es c) := hg
  have hr := run_range_map (P := P) w T Kt E g es c hT hg'
  refine GL_new (v := .pointer (some ⟨w.heap.size, 0, none⟩)) hw hd ?_ (h _ _ (Nat.le_refl _) (by simp) (Mod.alloc w _) (hp.comp (Hp.newBlk w _)))
  simp [execOp, ho, hx, hr, Sem.run]
theorem GL_nextX {i g r s c0 c : Nat} {seen : Array Nat} {es : Array MapEntry} (hw : Wn n ops f o) (hd : o.dst = some d) (ho : o.op = .next x false) (hx : ev n f x = .pointer (some ⟨r, 0, none⟩))
    (hp : Hp w0 S w H) (hi : H[i]? = some (.blk r (.mapIter (some g) s seen c0))) (hb : (Res.blk g (.map es c)).at_ w) (hold : ∀ e ∈ es.toList, e.born < s) (hs : s ≤ c0)
    (h1 : (leftOf es seen).size = 0 → GL P n ops rest (upd f d (.tuple #[.bool false])) w K)
    (h2 : ∀ e w', e ∈ (leftOf es seen).toList → Hp w0 S w' (H.set i (.blk r (.mapIter (some g) s (seen.push e.born) c))) → GL P n ops rest (upd f d (.tuple #[.bool true, e.key, e.val])) w' K) : GL P n ops (o :: rest) f w K := by
  have hr : w.heap[r]? = some (.mapIter (some g) s seen c0) := hp.get i hi
  have hb' : w.heap[g]? = some (.map es c) := hb
  rcases run_next_at (P := P) w o.type r g s c0 seen es c hr hb' hold hs with ⟨h0, hrun⟩ | ⟨e, he, w1, hal, hrun⟩
  · exact GL_new hw hd (by simp [execOp, ho, hx, hrun, Sem.run]) (h1 h0)
  · exact GL_new hw hd (by simp only [execOp, ho, hx]; simp [hrun, Sem.run]) (h2 e _ he (hp.turnAt i hi (Hp.setIter (g := g) hr w1 hal)))
/-- What a range has come by, and what is left. -/
structure Came (A : AL) (q : AL) (seen : Array Nat) : Prop where
  perm : ∃ s : AL, (q ++ s).Perm A
  seen : seen = (q.map (·.2.2)).toArray
def keysOf (A : AL) (xs : List ByteArray) : Prop := xs.Perm (A.map (·.1))
theorem Came.nil (A : AL) : Came A [] #[] := ⟨⟨A, List.Perm.refl _⟩, rfl⟩
theorem seen_iff {q : AL} {b : Nat} : ((q.map (·.2.2)).toArray.contains b) = true ↔ b ∈ q.map (·.2.2) := by
  rw [Array.contains_iff_mem]; simp
theorem Came.step {A q : AL} {seen : Array Nat} {e : MapEntry} (h : Came A q seen) (he : e ∈ (leftOf ⟨alE A⟩ seen).toList) : ∃ a : ByteArray × Value × Nat, a ∈ A ∧ e = { key := .string a.1, val := a.2.1, born := a.2.2 } ∧ Came A (q ++ [a]) (seen.push e.born) ∧ ∃ s : AL, (q ++ a :: s).Perm A := by
  obtain ⟨h1, h2⟩ := mem_left he
  obtain ⟨a, ha, rfl⟩ := List.mem_map.1 (show e ∈ A.map _ from h1)
  obtain ⟨⟨s, hs⟩, hseen⟩ := h
  rw [hseen] at h2
  have hnq : ¬ a ∈ q := fun hq => by
    have := seen_iff.2 (List.mem_map_of_mem (f := (·.2.2)) hq)
    rw [this] at h2; cases h2
  have has : a ∈ s := by
    rcases List.mem_append.1 (hs.mem_iff.2 ha) with q1 | q1
    · exact absurd q1 hnq
    · exact q1
  obtain ⟨u, v, rfl⟩ := List.append_of_mem has
  have hp : (q ++ a :: (u ++ v)).Perm A := (List.Perm.append_left q List.perm_middle.symm).trans hs
  refine ⟨a, ha, rfl, ⟨⟨u ++ v, by rw [List.append_assoc]; exact hp⟩, by rw [hseen]; simp⟩, ⟨u ++ v, hp⟩⟩
theorem Came.all {A q : AL} {seen : Array Nat} {c : Nat} (h : Came A q seen) (hA : AlOk A c) (h0 : (leftOf ⟨alE A⟩ seen).size = 0) : q.Perm A := by
  obtain ⟨⟨s, hs⟩, hseen⟩ := h
  have hnil : s = [] := by
    rcases s with _ | ⟨b, s⟩
    · rfl
    · exfalso
      have hb : b ∈ A := hs.mem_iff.1 (by simp)
      have hborn : (((q ++ b :: s).map (·.2.2))).Nodup := (hs.map _).nodup_iff.2 hA.born
      rw [List.map_append, List.nodup_append] at hborn
      have hnb : ¬ b.2.2 ∈ q.map (·.2.2) := fun hq => hborn.2.2 _ hq _ (by simp) rfl
      have hin : ({ key := .string b.1, val := b.2.1, born := b.2.2 } : MapEntry) ∈ (leftOf ⟨alE A⟩ seen).toList := by
        unfold leftOf
        rw [Array.toList_filter]
        refine List.mem_filter.2 ⟨List.mem_map.2 ⟨b, hb, rfl⟩, ?_⟩
        rw [hseen]
        cases hc : (q.map (·.2.2)).toArray.contains b.2.2 with
        | true => exact absurd (seen_iff.1 hc) hnb
        | false => rfl
      have hl : (leftOf ⟨alE A⟩ seen).toList.length = 0 := by simpa using h0
      rw [List.eq_nil_of_length_eq_zero hl] at hin
      cases hin
  rw [hnil, List.append_nil] at hs; exact hs
theorem keys_mid {A q s : AL} {a : ByteArray × Value × Nat} (h : (q ++ a :: s).Perm A) : keysOf A (q.map (·.1) ++ a.1 :: s.map (·.1)) := by
  have := h.map (·.1)
  rw [List.map_append, List.map_cons] at this; exact this
theorem keys_all {A q : AL} (h : q.Perm A) : keysOf A (q.map (·.1)) := h.map _
theorem AlOk.oldE {A : AL} {c : Nat} (h : AlOk A c) : ∀ e ∈ (⟨alE A⟩ : Array MapEntry).toList, e.born < c := by
  intro e he
  obtain ⟨a, ha, rfl⟩ := List.mem_map.1 (show e ∈ A.map _ from he)
  exact h.lt a ha
theorem AlOk.bornE {A : AL} {c : Nat} (h : AlOk A c) : ((⟨alE A⟩ : Array MapEntry).toList.map (·.born)).Nodup := by
  have e : ((⟨alE A⟩ : Array MapEntry).toList.map (·.born)) = A.map (·.2.2) := by simp [alE, Function.comp_def]
  rw [e]; exact h.born
end Go.Mo
