/- Maps from texts to whatever: entries as a list, looked up, put, taken out, counted. -/
import Derived.Test.YtpagpmioopaciaaQClassS
set_option linter.unusedVariables false
set_option linter.unusedSimpArgs false
namespace Go.Mo
open Go.RowKit
abbrev AL := List (ByteArray × Value × Nat)
def alE (A : AL) : List MapEntry := A.map fun e => { key := .string e.1, val := e.2.1, born := e.2.2 }
def alF (s : ByteArray) : AL → Option (Nat × Value)
  | [] => none
  | e :: A => if s = e.1 then some (0, e.2.1) else (alF s A).map fun p => (p.1 + 1, p.2)
theorem al_none {s : ByteArray} : ∀ {A : AL}, alF s A = none ↔ ¬ s ∈ A.map (·.1)
  | [] => by simp [alF]
  | e :: A => by
    rw [alF, List.map_cons, List.mem_cons]
    by_cases q : s = e.1
    · simp [q]
    · have := al_none (s := s) (A := A)
      simp only [q, if_false, Option.map_eq_none_iff, false_or]
      exact this
/-- What is put: an entry that is there turns, another one comes last. -/
def alPut (A : AL) (s : ByteArray) (v : Value) (c : Nat) : AL := match alF s A with
  | some p => A.modify p.1 fun e => (s, v, e.2.2)
  | none => A ++ [(s, v, c)]
def alClk (A : AL) (s : ByteArray) (c : Nat) : Nat := match alF s A with
  | some _ => c
  | none => c + 1
section laws
variable {P : Program} {n : Nat} {ops : Array Oper} {f : Fm} {w w0 : World} {S : List Nat} {H : List Res} {K : Fm → World → Prop} {o : Oper} {rest : List Oper} {d : Nat} {x y z : Operand}
theorem Hp.setBlk {g : Nat} {o : Obj} (o' : Obj) (h : w.heap[g]? = some o) : Hp w [g] { w with heap := w.heap.setIfInBounds g o' } [.blk g o'] := by
  have hlt : g < w.heap.size := (Array.getElem?_eq_some_iff.1 h).1
  refine ⟨⟨rfl, rfl, rfl, by simp, fun k hk hn => ?_⟩, ?_, by simp [Res.foot], by simp⟩
  · simp only [List.mem_singleton] at hn
    show (w.heap.setIfInBounds g o')[k]? = _
    rw [Array.getElem?_setIfInBounds_ne (fun e => hn e.symm)]
  · intro r hr
    simp only [List.mem_singleton] at hr
    subst hr
    show (w.heap.setIfInBounds g o')[g]? = _
    rw [Array.getElem?_setIfInBounds_self_of_lt hlt]
end laws
structure AlOk (A : AL) (c : Nat) : Prop where
  keys : (A.map (·.1)).Nodup
  born : (A.map (·.2.2)).Nodup
  lt : ∀ e ∈ A, e.2.2 < c
theorem al_keys_modify {s : ByteArray} {v : Value} : ∀ {A : AL} {i : Nat} {u : Value}, alF s A = some (i, u) → (A.modify i fun e => (s, v, e.2.2)).map (·.1) = A.map (·.1) ∧ (A.modify i fun e => (s, v, e.2.2)).map (·.2.2) = A.map (·.2.2)
  | [], _, _, h => by cases h
  | e :: A, i, u, h => by
    rw [alF] at h
    split at h
    · rename_i q
      injection h with h; injection h with h1 h2
      subst h1
      rw [List.modify_zero_cons]
      exact ⟨by rw [List.map_cons, List.map_cons, q], rfl⟩
    · cases hq : alF s A with
      | none => rw [hq] at h; cases h
      | some p =>
        rw [hq] at h
        simp only [Option.map_some, Option.some.injEq, Prod.mk.injEq] at h
        obtain ⟨h1, h2⟩ := h
        subst h1
        obtain ⟨k1, k2⟩ := al_keys_modify (v := v) hq
        rw [List.modify_succ_cons]
        exact ⟨by rw [List.map_cons, List.map_cons, k1], by rw [List.map_cons, List.map_cons, k2]⟩
theorem AlOk.nil : AlOk [] 0 := ⟨.nil, .nil, by simp⟩
theorem AlOk.put {A : AL} {c : Nat} (h : AlOk A c) (s : ByteArray) (v : Value) : AlOk (alPut A s v c) (alClk A s c) := by
  unfold alPut alClk
  cases hq : alF s A with
  | none =>
    have hn := al_none.1 hq
    refine ⟨?_, ?_, ?_⟩
    · show ((A ++ [(s, v, c)]).map (·.1)).Nodup
      rw [List.map_append, List.nodup_append]
      exact ⟨h.keys, by simp, by simp only [List.map_cons, List.map_nil, List.mem_singleton]; rintro a ha b rfl e; exact hn (e ▸ ha)⟩
    · show ((A ++ [(s, v, c)]).map (·.2.2)).Nodup
      rw [List.map_append, List.nodup_append]
      refine ⟨h.born, by simp, ?_⟩
      simp only [List.map_cons, List.map_nil, List.mem_singleton]
      rintro a ha b rfl e
      obtain ⟨x, hx, rfl⟩ := List.mem_map.1 ha
      have := h.lt x hx
      omega
    · intro e he
      rcases List.mem_append.1 he with he | he
      · have := h.lt e he; show e.2.2 < c + 1; omega
      · rw [List.mem_singleton.1 he]; exact Nat.lt_succ_self c
  | some p =>
    obtain ⟨k1, k2⟩ := al_keys_modify (v := v) hq
    refine ⟨by show ((A.modify p.1 _).map _).Nodup; rw [k1]; exact h.keys, by show ((A.modify p.1 _).map _).Nodup; rw [k2]; exact h.born, ?_⟩
    intro e he
    have hm : e.2.2 ∈ (A.modify p.1 fun e => (s, v, e.2.2)).map (·.2.2) := List.mem_map_of_mem he
    rw [k2] at hm
    obtain ⟨x, hx, hxe⟩ := List.mem_map.1 hm
    rw [← hxe]; exact h.lt x hx
end Go.Mo
