/- Maps with whatever keys: entries as a list, looked up, put, taken out, counted, gone through. -/
import Derived.Test.YtpagpmioopaciaaQKeys
import Derived.WideKeyRuns
set_option linter.unusedVariables false
set_option linter.unusedSimpArgs false
set_option linter.unusedSectionVars false
namespace Go.Mo
open Go.RowKit
abbrev KL (κ : Type) := List (κ × Value × Nat)
variable {κ : Type} [DecidableEq κ]
def kmE (ek : κ → Value) (A : KL κ) : List MapEntry := A.map fun e => { key := ek e.1, val := e.2.1, born := e.2.2 }
def kmF (s : κ) : KL κ → Option (Nat × Value)
  | [] => none
  | e :: A => if s = e.1 then some (0, e.2.1) else (kmF s A).map fun p => (p.1 + 1, p.2)
def kmG (A : KL κ) (s : κ) : Option Value := (kmF s A).map (·.2)
theorem km_lt {s : κ} : ∀ {A : KL κ} {i : Nat} {v : Value}, kmF s A = some (i, v) → ∃ b, A[i]? = some (s, v, b)
  | [], _, _, h => by cases h
  | e :: A, i, v, h => by
    rw [kmF] at h
    split at h
    · rename_i q
      injection h with h; injection h with h1 h2
      subst h1 h2
      exact ⟨e.2.2, by rw [q]; rfl⟩
    · cases hq : kmF s A with
      | none => rw [hq] at h; cases h
      | some p =>
        rw [hq] at h
        simp only [Option.map_some, Option.some.injEq, Prod.mk.injEq] at h
        obtain ⟨h1, h2⟩ := h
        obtain ⟨b, hb⟩ := km_lt hq
        exact ⟨b, by rw [← h1, ← h2]; exact hb⟩
theorem km_none {s : κ} : ∀ {A : KL κ}, kmF s A = none ↔ ¬ s ∈ A.map (·.1)
  | [] => by simp [kmF]
  | e :: A => by
    rw [kmF, List.map_cons, List.mem_cons]
    by_cases q : s = e.1
    · simp [q]
    · have := km_none (s := s) (A := A)
      simp only [q, if_false, Option.map_eq_none_iff, false_or]
      exact this
/-- What is put: an entry that is there turns, another one comes last. -/
def kmPut (A : KL κ) (s : κ) (v : Value) (c : Nat) : KL κ := match kmF s A with
  | some p => A.modify p.1 fun e => (s, v, e.2.2)
  | none => A ++ [(s, v, c)]
def kmClk (A : KL κ) (s : κ) (c : Nat) : Nat := match kmF s A with
  | some _ => c
  | none => c + 1
structure KeyOk (P : Program) (Kt : TypeId) (ek : κ → Value) : Prop where
  chk : ∀ (b : Bool) (w : World) (k : κ), (Instr.checkKey b 10000 Kt (ek k)).run P w = .ok () w
  find : ∀ (w : World) (k : κ) (A : KL κ), (Instr.findKey Kt (ek k) (kmE ek A)).run P w = .ok (kmF k A) w
  same : ∀ k, Instr.sameBits 10000 (ek k) (ek k) = true
section laws
variable {P : Program} {n : Nat} {ops : Array Oper} {f : Fm} {w w0 : World} {S : List Nat} {H : List Res} {K : Fm → World → Prop} {o : Oper} {rest : List Oper} {d : Nat} {x y z : Operand}
theorem rd_lookK1 {ek : κ → Value} {T Kt E : TypeId} {A : KL κ} {c g : Nat} {s : κ} {zv : Value} (ho : o.op = .lookup T x y false) (hx : ev n f x = .map (some g)) (hy : ev n f y = ek s) (hT : P.underlying T = some (.map Kt E)) (hK : KeyOk P Kt ek) (hz : (P.info? E).bind (·.zero) = some zv)
    (hg : (Res.blk g (.map ⟨kmE ek A⟩ c)).at_ w) : Rd P n f o w ((kmG A s).getD zv) := by
  have hg' : w.heap[g]? = some (.map ⟨kmE ek A⟩ c) := hg
  have h1 : ∀ b, (Instr.checkKey b 10000 Kt (ek s)).run P w = .ok () w := fun b => hK.chk b w s
  have h2 := hK.find w s A
  unfold kmG
  cases hr : kmF s A with
  | none => rw [hr] at h2; simp [Rd, execOp, ho, hx, hy, Instr.lookup, run_underlying hT, getObj, hg', h1, h2, run_zero hz, Sem.run]
  | some q => rw [hr] at h2; obtain ⟨i, v⟩ := q; simp [Rd, execOp, ho, hx, hy, Instr.lookup, run_underlying hT, getObj, hg', h1, h2, Sem.run]
theorem GL_putK {ek : κ → Value} {T Kt E : TypeId} {i g c : Nat} {A : KL κ} {s : κ} {v : Value} (hw : Wn n ops f o) (hd : o.dst = none) (ho : o.op = .mapUpdate T x y z) (hx : ev n f x = .map (some g)) (hy : ev n f y = ek s) (hv : ev n f z = v) (hT : P.underlying T = some (.map Kt E)) (hK : KeyOk P Kt ek)
    (hp : Hp w0 S w H) (hi : H[i]? = some (.blk g (.map ⟨kmE ek A⟩ c))) (h : ∀ w', Hp w0 S w' (H.set i (.blk g (.map ⟨(kmE ek) (kmPut A s v c)⟩ (kmClk A s c)))) → GL P n ops rest f w' K) : GL P n ops (o :: rest) f w K := by
  have hg : w.heap[g]? = some (.map ⟨kmE ek A⟩ c) := hp.get i hi
  have h1 : (Instr.checkKey false 10000 Kt (ek s)).run P w = .ok () w := hK.chk false w s
  have h2 := hK.find w s A
  refine GL_do (w' := { w with heap := w.heap.setIfInBounds g (.map ⟨(kmE ek) (kmPut A s v c)⟩ (kmClk A s c)) }) hw hd ?_ (h _ (hp.turnAt i hi (Hp.setBlk _ hg)))
  unfold kmPut kmClk
  cases hr : kmF s A with
  | none =>
    rw [hr] at h2
    have e : (kmE ek) (A ++ [(s, v, c)]) = (kmE ek) A ++ [{ key := ek s, val := v, born := c }] := by simp [kmE]
    simp [execOp, ho, hx, hy, hv, Instr.mapUpdate, run_underlying hT, getObj, setObj, hg, h1, h2, Sem.run, e]
  | some q =>
    obtain ⟨j, u⟩ := q
    rw [hr] at h2
    obtain ⟨b, hb⟩ := km_lt hr
    have c3 : ((kmE ek) A)[j]? = some { key := ek s, val := u, born := b } := by simp [kmE, hb]
    have h3 : (Instr.keyThatStays (ek s) (ek s)).run P w = .ok (ek s) w := by
      have : Instr.sameBits 10000 (ek s) (ek s) = true := hK.same s
      unfold Instr.keyThatStays
      rw [if_pos this]
      rfl
    have c5 : ((kmE ek) A).modify j (fun e => { key := ek s, val := v, born := e.born }) = (kmE ek) (A.modify j fun e => (s, v, e.2.2)) := by
      unfold kmE
      apply List.ext_getElem?
      intro k
      simp only [List.getElem?_modify, List.getElem?_map]
      cases A[k]? with
      | none => simp
      | some e => by_cases hk : j = k <;> simp [hk]
    simp [execOp, ho, hx, hy, hv, Instr.mapUpdate, run_underlying hT, getObj, setObj, hg, h1, h2, Sem.run, c3, h3, c5]
end laws
structure KmOk (A : KL κ) (c : Nat) : Prop where
  keys : (A.map (·.1)).Nodup
  born : (A.map (·.2.2)).Nodup
  lt : ∀ e ∈ A, e.2.2 < c
theorem kmG_cons (e : κ × Value × Nat) (A : KL κ) (t : κ) : kmG (e :: A) t = if t = e.1 then some e.2.1 else kmG A t := by
  unfold kmG
  rw [kmF]
  split
  · rfl
  · cases kmF t A <;> rfl
theorem kmG_snoc (A : KL κ) (e : κ × Value × Nat) (t : κ) : kmG (A ++ [e]) t = if (kmG A t).isSome then kmG A t else if t = e.1 then some e.2.1 else none := by
  induction A with
  | nil => rw [List.nil_append, kmG_cons]; rfl
  | cons a A ih =>
    rw [List.cons_append, kmG_cons, kmG_cons, ih]
    split <;> simp
theorem kmG_modify {s : κ} {v : Value} : ∀ {A : KL κ} {i : Nat} {u : Value} (t : κ), kmF s A = some (i, u) → kmG (A.modify i fun e => (s, v, e.2.2)) t = if t = s then some v else kmG A t
  | [], _, _, _, h => by cases h
  | e :: A, i, u, t, h => by
    rw [kmF] at h
    split at h
    · rename_i q
      injection h with h; injection h with h1 h2
      subst h1
      rw [List.modify_zero_cons, kmG_cons, kmG_cons]
      show (if t = s then some v else _) = _
      by_cases k : t = s
      · rw [if_pos k, if_pos k]
      · rw [if_neg k, if_neg k, if_neg (by rw [← q]; exact k)]
    · rename_i q
      cases hq : kmF s A with
      | none => rw [hq] at h; cases h
      | some p =>
        rw [hq] at h
        simp only [Option.map_some, Option.some.injEq, Prod.mk.injEq] at h
        obtain ⟨h1, h2⟩ := h
        subst h1
        rw [List.modify_succ_cons, kmG_cons, kmG_cons, kmG_modify t hq]
        by_cases k : t = e.1
        · rw [if_pos k, if_pos k, if_neg (by rw [k]; exact fun z => q z.symm)]
        · rw [if_neg k, if_neg k]
theorem kmG_put (A : KL κ) (s t : κ) (v : Value) (c : Nat) : kmG (kmPut A s v c) t = if t = s then some v else kmG A t := by
  unfold kmPut
  cases h : kmF s A with
  | none =>
    show kmG (A ++ [(s, v, c)]) t = _
    rw [kmG_snoc]
    by_cases k : t = s
    · have hn : kmG A t = none := by rw [k]; unfold kmG; rw [h]; rfl
      subst k
      rw [hn]; simp
    · cases kmG A t <;> simp [k]
  | some p => exact kmG_modify t h
theorem km_keys_modify {s : κ} {v : Value} : ∀ {A : KL κ} {i : Nat} {u : Value}, kmF s A = some (i, u) → (A.modify i fun e => (s, v, e.2.2)).map (·.1) = A.map (·.1) ∧ (A.modify i fun e => (s, v, e.2.2)).map (·.2.2) = A.map (·.2.2)
  | [], _, _, h => by cases h
  | e :: A, i, u, h => by
    rw [kmF] at h
    split at h
    · rename_i q
      injection h with h; injection h with h1 h2
      subst h1
      rw [List.modify_zero_cons]
      exact ⟨by rw [List.map_cons, List.map_cons, q], rfl⟩
    · cases hq : kmF s A with
      | none => rw [hq] at h; cases h
      | some p =>
        rw [hq] at h
        simp only [Option.map_some, Option.some.injEq, Prod.mk.injEq] at h
        obtain ⟨h1, h2⟩ := h
        subst h1
        obtain ⟨k1, k2⟩ := km_keys_modify (v := v) hq
        rw [List.modify_succ_cons]
        exact ⟨by rw [List.map_cons, List.map_cons, k1], by rw [List.map_cons, List.map_cons, k2]⟩
theorem KmOk.nil : KmOk ([] : KL κ) 0 := ⟨.nil, .nil, by simp⟩
theorem KmOk.put {A : KL κ} {c : Nat} (h : KmOk A c) (s : κ) (v : Value) : KmOk (kmPut A s v c) (kmClk A s c) := by
  unfold kmPut kmClk
  cases hq : kmF s A with
  | none =>
    have hn := km_none.1 hq
    refine ⟨?_, ?_, ?_⟩
    · show ((A ++ [(s, v, c)]).map (·.1)).Nodup
      rw [List.map_append, List.nodup_append]
      exact ⟨h.keys, by simp, by simp only [List.map_cons, List.map_nil, List.mem_singleton]; rintro a ha b rfl e; exact hn (e ▸ ha)⟩
    · show ((A ++ [(s, v, c)]).map (·.2.2)).Nodup
      rw [List.map_append, List.nodup_append]
      refine ⟨h.born, by simp, ?_⟩
      simp only [List.map_cons, List.map_nil, List.mem_singleton]
      rintro a ha b rfl e
      obtain ⟨x, hx, rfl⟩ := List.mem_map.1 ha
      have := h.lt x hx
      omega
    · intro e he
      rcases List.mem_append.1 he with he | he
      · have := h.lt e he; show e.2.2 < c + 1; omega
      · rw [List.mem_singleton.1 he]; exact Nat.lt_succ_self c
  | some p =>
    obtain ⟨k1, k2⟩ := km_keys_modify (v := v) hq
    refine ⟨by show ((A.modify p.1 _).map _).Nodup; rw [k1]; exact h.keys, by show ((A.modify p.1 _).map _).Nodup; rw [k2]; exact h.born, ?_⟩
    intro e he
    have hm : e.2.2 ∈ (A.modify p.1 fun e => (s, v, e.2.2)).map (·.2.2) := List.mem_map_of_mem he
    rw [k2] at hm
    obtain ⟨x, hx, hxe⟩ := List.mem_map.1 hm
    rw [← hxe]; exact h.lt x hx
section ranges
/-- What a range has come by, and what is left. -/
structure CameK (A : KL κ) (q : KL κ) (seen : Array Nat) : Prop where
  perm : ∃ s : KL κ, (q ++ s).Perm A
  seen : seen = (q.map (·.2.2)).toArray
theorem CameK.nil (A : KL κ) : CameK A [] #[] := ⟨⟨A, List.Perm.refl _⟩, rfl⟩
theorem seen_iffK {q : KL κ} {b : Nat} : ((q.map (·.2.2)).toArray.contains b) = true ↔ b ∈ q.map (·.2.2) := by
  rw [Array.contains_iff_mem]; simp
theorem CameK.step {ek : κ → Value} {A q : KL κ} {seen : Array Nat} {e : MapEntry} (h : CameK A q seen) (he : e ∈ (leftOf ⟨kmE ek A⟩ seen).toList) : ∃ a : κ × Value × Nat, a ∈ A ∧ e = { key := ek a.1, val := a.2.1, born := a.2.2 } ∧ CameK A (q ++ [a]) (seen.push e.born) ∧ ∃ s : KL κ, (q ++ a :: s).Perm A := by
  obtain ⟨h1, h2⟩ := mem_left he
  obtain ⟨a, ha, rfl⟩ := List.mem_map.1 (show e ∈ A.map _ from h1)
  obtain ⟨⟨s, hs⟩, hseen⟩ := h
  rw [hseen] at h2
  have hnq : ¬ a ∈ q := fun hq => by
    have := seen_iffK.2 (List.mem_map_of_mem (f := (·.2.2)) hq)
    rw [this] at h2; cases h2
  have has : a ∈ s := by
    rcases List.mem_append.1 (hs.mem_iff.2 ha) with q1 | q1
    · exact absurd q1 hnq
    · exact q1
  obtain ⟨u, v, rfl⟩ := List.append_of_mem has
  have hp : (q ++ a :: (u ++ v)).Perm A := (List.Perm.append_left q List.perm_middle.symm).trans hs
  refine ⟨a, ha, rfl, ⟨⟨u ++ v, by rw [List.append_assoc]; exact hp⟩, by rw [hseen]; simp⟩, ⟨u ++ v, hp⟩⟩
theorem CameK.all {ek : κ → Value} {A q : KL κ} {seen : Array Nat} {c : Nat} (h : CameK A q seen) (hA : KmOk A c) (h0 : (leftOf ⟨kmE ek A⟩ seen).size = 0) : q.Perm A := by
  obtain ⟨⟨s, hs⟩, hseen⟩ := h
  have hnil : s = [] := by
    rcases s with _ | ⟨b, s⟩
    · rfl
    · exfalso
      have hb : b ∈ A := hs.mem_iff.1 (by simp)
      have hborn : (((q ++ b :: s).map (·.2.2))).Nodup := (hs.map _).nodup_iff.2 hA.born
      rw [List.map_append, List.nodup_append] at hborn
      have hnb : ¬ b.2.2 ∈ q.map (·.2.2) := fun hq => hborn.2.2 _ hq _ (by simp) rfl
      have hin : ({ key := ek b.1, val := b.2.1, born := b.2.2 } : MapEntry) ∈ (leftOf ⟨kmE ek A⟩ seen).toList := by
        unfold leftOf
        rw [Array.toList_filter]
        refine List.mem_filter.2 ⟨List.mem_map.2 ⟨b, hb, rfl⟩, ?_⟩
        rw [hseen]
        cases hc : (q.map (·.2.2)).toArray.contains b.2.2 with
        | true => exact absurd (seen_iffK.1 hc) hnb
        | false => rfl
      have hl : (leftOf ⟨kmE ek A⟩ seen).toList.length = 0 := by simpa using h0
      rw [List.eq_nil_of_length_eq_zero hl] at hin
      cases hin
  rw [hnil, List.append_nil] at hs; exact hs
end ranges
section keys
variable {P : Program}
def ekB (n : Nat) (a : { x : List UInt8 // x.length = n }) : Value := .agg ⟨bys a.1⟩
theorem run_equalB {T E : TypeId} {m : Nat} {a b : List UInt8} {w : World} (hT : P.underlying T = some (.array m E)) (hE : P.underlying E = some (.int .u8)) (hs : (P.info? E).map (·.size) = some 1) (h1 : a.length = m) (h2 : b.length = m) :
    (Op.equal T (.agg ⟨bys a⟩) (.agg ⟨bys b⟩)).run P w = .ok (decide (a = b)) w := by
  obtain ⟨inf, hi, hs'⟩ := Option.map_eq_some_iff.1 hs
  have hc : P.cellsOf E = 1 := by simp [Program.cellsOf, hi, hs']
  have e : ∀ l : List UInt8, bys l = (l.map fun u => (u.toNat : Int)).map (Value.int .u8) := fun l => by simp [bys, List.map_map, Function.comp_def]
  have key : (Op.equalIn 10000 T (.agg ⟨bys a⟩) (.agg ⟨bys b⟩)).run P w = .ok (decide (a = b)) w := by
    rw [e, e, run_equalIn_array w 9999 _ _ hT hi, hc, List.range_eq_range', run_items hE 9998 (a.map fun u => (u.toNat : Int)) (b.map fun u => (u.toNat : Int)) (by simp [h1, h2]) m 0 (by simp [h1])]
    simp only [List.drop_zero]
    congr 2
    refine propext ⟨fun hq => bys_inj (by rw [e a, e b, hq]), fun hq => by rw [hq]⟩
  exact key
theorem find_arr {Kt E : TypeId} {m : Nat} (hT : P.underlying Kt = some (.array m E)) (hE : P.underlying E = some (.int .u8)) (hs : (P.info? E).map (·.size) = some 1) (w : World) (s : { x : List UInt8 // x.length = m }) : ∀ (A : KL { x : List UInt8 // x.length = m }) (k : Nat), (Instr.findAsking Kt (ekB m s) (kmE (ekB m) A) k).run P w = .ok ((kmF s A).map fun p => (k + p.1, p.2)) w
  | [], _ => by simp [kmE, Instr.findAsking, kmF, Sem.run]
  | e :: A, k => by
    have h := run_equalB (w := w) hT hE hs s.2 e.1.2
    have hd : decide (s.1 = e.1.1) = decide (s = e.1) := decide_eq_decide.2 ⟨Subtype.ext, fun q => by rw [q]⟩
    rw [hd] at h
    show (Instr.findAsking Kt (ekB m s) ({ key := ekB m e.1, val := e.2.1, born := e.2.2 } :: kmE (ekB m) A) k).run P w = _
    rw [Instr.findAsking]
    have h' : (Op.equal Kt (ekB m s) (ekB m e.1)).run P w = .ok (decide (s = e.1)) w := h
    by_cases q : s = e.1
    · simp only [Sem.run_bind, h', decide_eq_true q, Result.andThen_ok, if_true, Sem.run_pure, kmF, if_pos q, Option.map_some, Nat.add_zero]
    · have ih := find_arr hT hE hs w s A (k + 1)
      simp only [Sem.run_bind, h', q, decide_false, Result.andThen_ok, kmF, if_false]
      simp only [Bool.false_eq_true, if_false, ih]
      cases kmF s A with
      | none => rfl
      | some p => simp only [Option.map_some]; rw [show k + 1 + p.1 = k + (p.1 + 1) by omega]
theorem keyArr {Kt E : TypeId} {m : Nat} (hT : P.underlying Kt = some (.array m E)) (hE : P.underlying E = some (.int .u8)) (hs : (P.info? E).map (·.size) = some 1) : KeyOk P Kt (ekB m) where
  chk b w k := by
    obtain ⟨inf, hi, hs'⟩ := Option.map_eq_some_iff.1 hs
    show (Instr.checkKey b (9999 + 1) Kt (.agg ⟨bys k.1⟩)).run P w = _
    rw [Instr.checkKey]
    simp only [Sem.run_bind, run_underlying hT, Result.andThen_ok]
    simp only [Std.Legacy.Range.forIn_eq_forIn_range', Std.Legacy.Range.size, Nat.sub_zero, Nat.add_one_sub_one, Nat.div_one]
    have each : ∀ j ∈ List.range' 0 m, j < k.1.length := fun j hj => by rw [k.2]; have := (List.mem_range'_1.1 hj).2; omega
    generalize List.range' 0 m = is at each
    induction is with
    | nil => simp [Sem.run]
    | cons j is ih =>
      have hj := each j (by simp)
      have p1 : (part E (⟨bys k.1⟩ : Array Value) (j * 1)).run P w = .ok (.int .u8 (k.1[j].toNat : Int)) w := part_int hE _ _ (by rw [Nat.mul_one]; simpa using bys_get k.1 j hj)
      have p2 : (Instr.checkKey b 9999 E (.int .u8 (k.1[j].toNat : Int))).run P w = .ok () w := by
        have h : ∀ m v, (Instr.checkKey b (m + 1) E (.int .u8 v)).run P w = .ok () w := fun m v => by simp [Instr.checkKey, run_underlying hE, Sem.run]
        exact h 9998 _
      simp only [List.forIn_cons, Sem.run_bind, run_sizeOf hs, Result.andThen_ok, p1, p2, Sem.run_pure]
      exact ih (fun y hy => each y (by simp [hy]))
  find w k A := by
    rw [run_findKey_eq w (by rw [hT])]
    have h := find_arr hT hE hs w k A 0
    have e : (kmF k A).map (fun p => (0 + p.1, p.2)) = kmF k A := by cases kmF k A <;> simp
    rwa [e] at h
  same k := by
    have key : ∀ (l : List UInt8) (n : Nat), ((bys l).zip (bys l)).all (fun x => Instr.sameBits (n + 1) x.1 x.2) = true := by
      intro l n
      induction l with
      | nil => rfl
      | cons a l ih => rw [bys_cons, List.zip_cons_cons, List.all_cons, ih]; simp [Instr.sameBits]
    have h := key k.1 9998
    show Instr.sameBits (9999 + 1) (.agg ⟨bys k.1⟩) (.agg ⟨bys k.1⟩) = true
    simp only [Instr.sameBits]
    simpa using h
end keys
end Go.Mo
