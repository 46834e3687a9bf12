/- Maps from texts to whatever: entries as a list, looked up, put, taken out, counted. -/
import Derived.Test.YtpagpmioopaciaaGClassS
set_option linter.unusedVariables false
set_option linter.unusedSimpArgs false
namespace Go.Mo
open Go.RowKit
abbrev AL := List (ByteArray × Value × Nat)
def alE (A : AL) : List MapEntry := A.map fun e => { key := .string e.1, val := e.2.1, born := e.2.2 }
def alF (s : ByteArray) : AL → Option (Nat × Value)
  | [] => none
  | e :: A => if s = e.1 then some (0, e.2.1) else (alF s A).map fun p => (p.1 + 1, p.2)
def alG (A : AL) (s : ByteArray) : Option Value := (alF s A).map (·.2)
theorem al_find (s : ByteArray) : ∀ (A : AL) (k : Nat), Instr.findNow .string (.string s) (alE A) k = some ((alF s A).map fun p => (k + p.1, p.2))
  | [], _ => rfl
  | e :: A, k => by
    have hs : Instr.sameNow .string (.string s) (.string e.1) = some (decide (s = e.1)) := by
      have h : (s == e.1) = decide (s = e.1) := bytes_beq2 s e.1
      simp only [Instr.sameNow, h]
    show (match Instr.sameNow .string (.string s) (.string e.1) with | some true => some (some (k, e.2.1)) | some false => Instr.findNow .string (.string s) (alE A) (k + 1) | none => none) = _
    rw [hs]
    by_cases q : s = e.1
    · simp [q, alF]
    · simp only [q, decide_false, alF, if_false]
      rw [al_find s A (k + 1)]
      cases alF s A with
      | none => rfl
      | some p => simp only [Option.map_some]; congr 3; omega
theorem al_lt {s : ByteArray} : ∀ {A : AL} {i : Nat} {v : Value}, alF s A = some (i, v) → ∃ b, A[i]? = some (s, v, b)
  | [], _, _, h => by cases h
  | e :: A, i, v, h => by
    rw [alF] at h
    split at h
    · rename_i q
      injection h with h; injection h with h1 h2
      subst h1 h2
      exact ⟨e.2.2, by rw [q]; rfl⟩
    · cases hq : alF s A with
      | none => rw [hq] at h; cases h
      | some p =>
        rw [hq] at h
        simp only [Option.map_some, Option.some.injEq, Prod.mk.injEq] at h
        obtain ⟨h1, h2⟩ := h
        obtain ⟨b, hb⟩ := al_lt hq
        exact ⟨b, by rw [← h1, ← h2]; exact hb⟩
theorem al_none {s : ByteArray} : ∀ {A : AL}, alF s A = none ↔ ¬ s ∈ A.map (·.1)
  | [] => by simp [alF]
  | e :: A => by
    rw [alF, List.map_cons, List.mem_cons]
    by_cases q : s = e.1
    · simp [q]
    · have := al_none (s := s) (A := A)
      simp only [q, if_false, Option.map_eq_none_iff, false_or]
      exact this
/-- What is put: an entry that is there turns, another one comes last. -/
def alPut (A : AL) (s : ByteArray) (v : Value) (c : Nat) : AL := match alF s A with
  | some p => A.modify p.1 fun e => (s, v, e.2.2)
  | none => A ++ [(s, v, c)]
def alClk (A : AL) (s : ByteArray) (c : Nat) : Nat := match alF s A with
  | some _ => c
  | none => c + 1
def alDel (A : AL) (s : ByteArray) : AL := match alF s A with
  | some p => A.eraseIdx p.1
  | none => A
theorem map_erase {α β : Type} (f : α → β) : ∀ (l : List α) (j : Nat), (l.map f).eraseIdx j = (l.eraseIdx j).map f
  | [], _ => rfl
  | a :: l, 0 => rfl
  | a :: l, j + 1 => by simp only [List.map_cons, List.eraseIdx_cons_succ, map_erase f l j]
section laws
variable {P : Program} {n : Nat} {ops : Array Oper} {f : Fm} {w w0 : World} {S : List Nat} {H : List Res} {K : Fm → World → Prop} {o : Oper} {rest : List Oper} {d : Nat} {x y z : Operand}
theorem run_keyA {Kt : TypeId} {s : ByteArray} {A : AL} (hK : P.underlying Kt = some .string) : (Instr.findKey Kt (.string s) (alE A)).run P w = .ok (alF s A) w := by
  have h := al_find s A 0
  have e : (alF s A).map (fun p => (0 + p.1, p.2)) = alF s A := by cases alF s A <;> simp
  rw [e] at h
  simp [Instr.findKey, run_underlying hK, h, Sem.run]
theorem rd_lookA {T Kt E : TypeId} {A : AL} {c g : Nat} {s : ByteArray} {zv : Value} (ho : o.op = .lookup T x y true) (hx : ev n f x = .map (some g)) (hy : ev n f y = .string s) (hT : P.underlying T = some (.map Kt E)) (hK : P.underlying Kt = some .string) (hz : (P.info? E).bind (·.zero) = some zv)
    (hg : (Res.blk g (.map ⟨alE A⟩ c)).at_ w) : Rd P n f o w (.tuple #[(alG A s).getD zv, .bool (alG A s).isSome]) := by
  have hg' : w.heap[g]? = some (.map ⟨alE A⟩ c) := hg
  have h1 : ∀ b, (Instr.checkKey b 10000 Kt (.string s)).run P w = .ok () w := fun b => run_keyS b 9999 hK
  have h2 := run_keyA (P := P) (w := w) (s := s) (A := A) hK
  unfold alG
  cases hr : alF s A with
  | none => rw [hr] at h2; simp [Rd, execOp, ho, hx, hy, Instr.lookup, run_underlying hT, getObj, hg', h1, h2, run_zero hz, Sem.run]
  | some q => rw [hr] at h2; obtain ⟨i, v⟩ := q; simp [Rd, execOp, ho, hx, hy, Instr.lookup, run_underlying hT, getObj, hg', h1, h2, Sem.run]
theorem rd_lookA1 {T Kt E : TypeId} {A : AL} {c g : Nat} {s : ByteArray} {zv : Value} (ho : o.op = .lookup T x y false) (hx : ev n f x = .map (some g)) (hy : ev n f y = .string s) (hT : P.underlying T = some (.map Kt E)) (hK : P.underlying Kt = some .string) (hz : (P.info? E).bind (·.zero) = some zv)
    (hg : (Res.blk g (.map ⟨alE A⟩ c)).at_ w) : Rd P n f o w ((alG A s).getD zv) := by
  have hg' : w.heap[g]? = some (.map ⟨alE A⟩ c) := hg
  have h1 : ∀ b, (Instr.checkKey b 10000 Kt (.string s)).run P w = .ok () w := fun b => run_keyS b 9999 hK
  have h2 := run_keyA (P := P) (w := w) (s := s) (A := A) hK
  unfold alG
  cases hr : alF s A with
  | none => rw [hr] at h2; simp [Rd, execOp, ho, hx, hy, Instr.lookup, run_underlying hT, getObj, hg', h1, h2, run_zero hz, Sem.run]
  | some q => rw [hr] at h2; obtain ⟨i, v⟩ := q; simp [Rd, execOp, ho, hx, hy, Instr.lookup, run_underlying hT, getObj, hg', h1, h2, Sem.run]
theorem Hp.setBlk {g : Nat} {o : Obj} (o' : Obj) (h : w.heap[g]? = some o) : Hp w [g] { w with heap := w.heap.setIfInBounds g o' } [.blk g o'] := by
  have hlt : g < w.heap.size := (Array.getElem?_eq_some_iff.1 h).1
  refine ⟨⟨rfl, rfl, rfl, by simp, fun k hk hn => ?_⟩, ?_, by simp [Res.foot], by simp⟩
  · simp only [List.mem_singleton] at hn
    show (w.heap.setIfInBounds g o')[k]? = _
    rw [Array.getElem?_setIfInBounds_ne (fun e => hn e.symm)]
  · intro r hr
    simp only [List.mem_singleton] at hr
    subst hr
    show (w.heap.setIfInBounds g o')[g]? = _
    rw [Array.getElem?_setIfInBounds_self_of_lt hlt]
theorem GL_putA {T Kt E : TypeId} {i g c : Nat} {A : AL} {s : ByteArray} {v : Value} (hw : Wn n ops f o) (hd : o.dst = none) (ho : o.op = .mapUpdate T x y z) (hx : ev n f x = .map (some g)) (hy : ev n f y = .string s) (hv : ev n f z = v) (hT : P.underlying T = some (.map Kt E)) (hK : P.underlying Kt = some .string)
    (hp : Hp w0 S w H) (hi : H[i]? = some (.blk g (.map ⟨alE A⟩ c))) (h : ∀ w', Hp w0 S w' (H.set i (.blk g (.map ⟨alE (alPut A s v c)⟩ (alClk A s c)))) → GL P n ops rest f w' K) : GL P n ops (o :: rest) f w K := by
  have hg : w.heap[g]? = some (.map ⟨alE A⟩ c) := hp.get i hi
  have h1 : (Instr.checkKey false 10000 Kt (.string s)).run P w = .ok () w := run_keyS false 9999 hK
  have h2 := run_keyA (P := P) (w := w) (s := s) (A := A) hK
  refine GL_do (w' := { w with heap := w.heap.setIfInBounds g (.map ⟨alE (alPut A s v c)⟩ (alClk A s c)) }) hw hd ?_ (h _ (hp.turnAt i hi (Hp.setBlk _ hg)))
  unfold alPut alClk
  cases hr : alF s A with
  | none =>
    rw [hr] at h2
    have e : alE (A ++ [(s, v, c)]) = alE A ++ [{ key := .string s, val := v, born := c }] := by simp [alE]
    simp [execOp, ho, hx, hy, hv, Instr.mapUpdate, run_underlying hT, getObj, setObj, hg, h1, h2, Sem.run, e]
  | some q =>
    obtain ⟨j, u⟩ := q
    rw [hr] at h2
    obtain ⟨b, hb⟩ := al_lt hr
    have c3 : (alE A)[j]? = some { key := .string s, val := u, born := b } := by simp [alE, hb]
    have h3 : (Instr.keyThatStays (.string s) (.string s)).run P w = .ok (.string s) w := by
      have : Instr.sameBits 10000 (.string s) (.string s) = true := (bytes_beq2 s s).trans (decide_eq_true rfl)
      unfold Instr.keyThatStays
      rw [if_pos this]
      rfl
    have c5 : (alE A).modify j (fun e => { key := .string s, val := v, born := e.born }) = alE (A.modify j fun e => (s, v, e.2.2)) := by
      unfold alE
      apply List.ext_getElem?
      intro k
      simp only [List.getElem?_modify, List.getElem?_map]
      cases A[k]? with
      | none => simp
      | some e => by_cases hk : j = k <;> simp [hk]
    simp [execOp, ho, hx, hy, hv, Instr.mapUpdate, run_underlying hT, getObj, setObj, hg, h1, h2, Sem.run, c3, h3, c5]
theorem GL_delA {T Kt E : TypeId} {ts : Array TypeId} {i g c : Nat} {A : AL} {s : ByteArray} (hw : Wn n ops f o) (hd : o.dst = none) (ho : o.op = .call { callee := .builtin .delete, args := #[x, y], argTypes := ts }) (ht : ts[0]? = some T) (hx : ev n f x = .map (some g)) (hy : ev n f y = .string s) (hT : P.underlying T = some (.map Kt E)) (hK : P.underlying Kt = some .string)
    (hp : Hp w0 S w H) (hi : H[i]? = some (.blk g (.map ⟨alE A⟩ c))) (h : ∀ w', Hp w0 S w' (H.set i (.blk g (.map ⟨alE (alDel A s)⟩ c))) → GL P n ops rest f w' K) : GL P n ops (o :: rest) f w K := by
  have hg : w.heap[g]? = some (.map ⟨alE A⟩ c) := hp.get i hi
  have h1 : ∀ b, (Instr.checkKey b 10000 Kt (.string s)).run P w = .ok () w := fun b => run_keyS b 9999 hK
  have h2 := run_keyA (P := P) (w := w) (s := s) (A := A) hK
  refine GL_run (w' := { w with heap := w.heap.setIfInBounds g (.map ⟨alE (alDel A s)⟩ c) }) (v := .tuple #[]) hw ?_ (by rw [hd]; exact h _ (hp.turnAt i hi (Hp.setBlk _ hg)))
  unfold alDel
  cases hr : alF s A with
  | none =>
    rw [hr] at h2
    simp [execOp, ho, hx, hy, resolve, invoke, builtin, Builtin.delete_, ht, run_underlying hT, getObj, setObj, hg, h1, h2, Sem.run]
  | some q =>
    obtain ⟨j, u⟩ := q
    rw [hr] at h2
    obtain ⟨b, hb⟩ := al_lt hr
    have hj : j < A.length := (List.getElem?_eq_some_iff.1 hb).1
    have c5 : (alE A).eraseIdx j = alE (A.eraseIdx j) := by unfold alE; exact map_erase _ _ _
    have hj2 : j < (alE A).length := by simpa [alE] using hj
    simp [execOp, ho, hx, hy, resolve, invoke, builtin, Builtin.delete_, ht, run_underlying hT, getObj, setObj, hg, h1, h2, Sem.run, Array.eraseIdxIfInBounds, hj2, c5]
theorem rd_lenM {T Kt E : TypeId} {ts : Array TypeId} {A : AL} {c g : Nat} (ho : o.op = .call { callee := .builtin .len, args := #[x], argTypes := ts }) (ht : ts[0]? = some T) (hx : ev n f x = .map (some g)) (hT : P.underlying T = some (.map Kt E)) (hg : (Res.blk g (.map ⟨alE A⟩ c)).at_ w) : Rd P n f o w (.int .i64 (A.length : Int)) := by
  have hg' : w.heap[g]? = some (.map ⟨alE A⟩ c) := hg
  have hl : (alE A).length = A.length := by simp [alE]
  simp [Rd, execOp, ho, hx, resolve, invoke, builtin, ht, run_underlying hT, getObj, hg', Sem.run, Builtin.len_, hl, goInt]
end laws
structure AlOk (A : AL) (c : Nat) : Prop where
  keys : (A.map (·.1)).Nodup
  born : (A.map (·.2.2)).Nodup
  lt : ∀ e ∈ A, e.2.2 < c
theorem alG_cons (e : ByteArray × Value × Nat) (A : AL) (t : ByteArray) : alG (e :: A) t = if t = e.1 then some e.2.1 else alG A t := by
  unfold alG
  rw [alF]
  split
  · rfl
  · cases alF t A <;> rfl
theorem alG_snoc (A : AL) (e : ByteArray × Value × Nat) (t : ByteArray) : alG (A ++ [e]) t = if (alG A t).isSome then alG A t else if t = e.1 then some e.2.1 else none := by
  induction A with
  | nil => rw [List.nil_append, alG_cons]; rfl
  | cons a A ih =>
    rw [List.cons_append, alG_cons, alG_cons, ih]
    split <;> simp
theorem alG_none {A : AL} {s : ByteArray} : alG A s = none ↔ ¬ s ∈ A.map (·.1) := by
  unfold alG; rw [Option.map_eq_none_iff]; exact al_none
theorem alG_modify {s : ByteArray} {v : Value} : ∀ {A : AL} {i : Nat} {u : Value} (t : ByteArray), alF s A = some (i, u) → alG (A.modify i fun e => (s, v, e.2.2)) t = if t = s then some v else alG A t
  | [], _, _, _, h => by cases h
  | e :: A, i, u, t, h => by
    rw [alF] at h
    split at h
    · rename_i q
      injection h with h; injection h with h1 h2
      subst h1
      rw [List.modify_zero_cons, alG_cons, alG_cons]
      show (if t = s then some v else _) = _
      by_cases k : t = s
      · rw [if_pos k, if_pos k]
      · rw [if_neg k, if_neg k, if_neg (by rw [← q]; exact k)]
    · rename_i q
      cases hq : alF s A with
      | none => rw [hq] at h; cases h
      | some p =>
        rw [hq] at h
        simp only [Option.map_some, Option.some.injEq, Prod.mk.injEq] at h
        obtain ⟨h1, h2⟩ := h
        subst h1
        rw [List.modify_succ_cons, alG_cons, alG_cons, alG_modify t hq]
        by_cases k : t = e.1
        · rw [if_pos k, if_pos k, if_neg (by rw [k]; exact fun z => q z.symm)]
        · rw [if_neg k, if_neg k]
theorem alG_put (A : AL) (s t : ByteArray) (v : Value) (c : Nat) : alG (alPut A s v c) t = if t = s then some v else alG A t := by
  unfold alPut
  cases h : alF s A with
  | none =>
    show alG (A ++ [(s, v, c)]) t = _
    rw [alG_snoc]
    by_cases k : t = s
    · have hn : alG A t = none := by rw [k]; unfold alG; rw [h]; rfl
      subst k
      rw [hn]; simp
    · cases alG A t <;> simp [k]
  | some p => exact alG_modify t h
theorem al_keys_modify {s : ByteArray} {v : Value} : ∀ {A : AL} {i : Nat} {u : Value}, alF s A = some (i, u) → (A.modify i fun e => (s, v, e.2.2)).map (·.1) = A.map (·.1) ∧ (A.modify i fun e => (s, v, e.2.2)).map (·.2.2) = A.map (·.2.2)
  | [], _, _, h => by cases h
  | e :: A, i, u, h => by
    rw [alF] at h
    split at h
    · rename_i q
      injection h with h; injection h with h1 h2
      subst h1
      rw [List.modify_zero_cons]
      exact ⟨by rw [List.map_cons, List.map_cons, q], rfl⟩
    · cases hq : alF s A with
      | none => rw [hq] at h; cases h
      | some p =>
        rw [hq] at h
        simp only [Option.map_some, Option.some.injEq, Prod.mk.injEq] at h
        obtain ⟨h1, h2⟩ := h
        subst h1
        obtain ⟨k1, k2⟩ := al_keys_modify (v := v) hq
        rw [List.modify_succ_cons]
        exact ⟨by rw [List.map_cons, List.map_cons, k1], by rw [List.map_cons, List.map_cons, k2]⟩
theorem al_mem {A : AL} {s : ByteArray} : s ∈ A.map (·.1) ↔ ¬ alG A s = none := by rw [alG_none]; exact Classical.not_not.symm
theorem al_mem_put (A : AL) (s t : ByteArray) (v : Value) (c : Nat) : t ∈ (alPut A s v c).map (·.1) ↔ t = s ∨ t ∈ A.map (·.1) := by
  rw [al_mem, al_mem, alG_put]
  by_cases k : t = s
  · simp [k]
  · simp [k]
theorem AlOk.nil : AlOk [] 0 := ⟨.nil, .nil, by simp⟩
theorem AlOk.put {A : AL} {c : Nat} (h : AlOk A c) (s : ByteArray) (v : Value) : AlOk (alPut A s v c) (alClk A s c) := by
  unfold alPut alClk
  cases hq : alF s A with
  | none =>
    have hn := al_none.1 hq
    refine ⟨?_, ?_, ?_⟩
    · show ((A ++ [(s, v, c)]).map (·.1)).Nodup
      rw [List.map_append, List.nodup_append]
      exact ⟨h.keys, by simp, by simp only [List.map_cons, List.map_nil, List.mem_singleton]; rintro a ha b rfl e; exact hn (e ▸ ha)⟩
    · show ((A ++ [(s, v, c)]).map (·.2.2)).Nodup
      rw [List.map_append, List.nodup_append]
      refine ⟨h.born, by simp, ?_⟩
      simp only [List.map_cons, List.map_nil, List.mem_singleton]
      rintro a ha b rfl e
      obtain ⟨x, hx, rfl⟩ := List.mem_map.1 ha
      have := h.lt x hx
      omega
    · intro e he
      rcases List.mem_append.1 he with he | he
      · have := h.lt e he; show e.2.2 < c + 1; omega
      · rw [List.mem_singleton.1 he]; exact Nat.lt_succ_self c
  | some p =>
    obtain ⟨k1, k2⟩ := al_keys_modify (v := v) hq
    refine ⟨by show ((A.modify p.1 _).map _).Nodup; rw [k1]; exact h.keys, by show ((A.modify p.1 _).map _).Nodup; rw [k2]; exact h.born, ?_⟩
    intro e he
    have hm : e.2.2 ∈ (A.modify p.1 fun e => (s, v, e.2.2)).map (·.2.2) := List.mem_map_of_mem he
    rw [k2] at hm
    obtain ⟨x, hx, hxe⟩ := List.mem_map.1 hm
    rw [← hxe]; exact h.lt x hx
theorem alG_erase {s : ByteArray} : ∀ {A : AL} {i : Nat} {u : Value} (t : ByteArray), (A.map (·.1)).Nodup → alF s A = some (i, u) → alG (A.eraseIdx i) t = if t = s then none else alG A t
  | [], _, _, _, _, h => by cases h
  | e :: A, i, u, t, hn, h => by
    rw [List.map_cons, List.nodup_cons] at hn
    rw [alF] at h
    split at h
    · rename_i q
      injection h with h; injection h with h1 h2
      subst h1
      rw [List.eraseIdx_cons_zero, alG_cons]
      by_cases k : t = s
      · rw [if_pos k]; exact alG_none.2 (by rw [k, q]; exact hn.1)
      · rw [if_neg k, if_neg (by rw [← q]; exact k)]
    · rename_i q
      cases hq : alF s A with
      | none => rw [hq] at h; cases h
      | some p =>
        rw [hq] at h
        simp only [Option.map_some, Option.some.injEq, Prod.mk.injEq] at h
        obtain ⟨h1, h2⟩ := h
        subst h1
        rw [List.eraseIdx_cons_succ, alG_cons, alG_cons, alG_erase t hn.2 hq]
        by_cases k : t = e.1
        · rw [if_pos k, if_pos k, if_neg (by rw [k]; exact fun z => q z.symm)]
        · rw [if_neg k, if_neg k]
theorem alG_del {A : AL} (hn : (A.map (·.1)).Nodup) (s t : ByteArray) : alG (alDel A s) t = if t = s then none else alG A t := by
  unfold alDel
  cases h : alF s A with
  | none =>
    by_cases k : t = s
    · rw [if_pos k, k]; unfold alG; rw [h]; rfl
    · rw [if_neg k]
  | some p => exact alG_erase t hn h
theorem alDel_sub (A : AL) (s : ByteArray) : (alDel A s).Sublist A := by
  unfold alDel
  cases alF s A with
  | none => exact List.Sublist.refl _
  | some p => exact List.eraseIdx_sublist _ _
theorem AlOk.del {A : AL} {c : Nat} (h : AlOk A c) (s : ByteArray) : AlOk (alDel A s) c :=
  ⟨h.keys.sublist ((alDel_sub A s).map _), h.born.sublist ((alDel_sub A s).map _), fun e he => h.lt e ((alDel_sub A s).subset he)⟩
end Go.Mo
