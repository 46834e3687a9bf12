/- Classes: maps of names, plain laws. -/
import Derived.Test.YtblpmjbddpadcaaHeapS
import Derived.Laws.StructEq
set_option linter.unusedVariables false
set_option linter.unusedSimpArgs false
namespace Go.Mo
open Go.RowKit Go.Lib
/-! ### Maps from texts -/
section maps
variable {P : Program} {n : Nat} {ops : Array Oper} {f : Fm} {w w0 : World} {S : List Nat} {H : List Res} {K : Fm → World → Prop} {o : Oper} {rest : List Oper} {d : Nat} {x y z : Operand}
theorem GL_makeMap {T : TypeId} (hw : Wn n ops f o) (hd : o.dst = some d) (ho : o.op = .makeMap T none) (hp : Hp w0 S w H)
    (h : ∀ g w', Hp w0 S w' (.blk g (.map #[] 0) :: H) → GL P n ops rest (upd f d (.map (some g))) w' K) : GL P n ops (o :: rest) f w K := by
  refine GL_new (w' := w.alloc (.map #[] 0)) (v := .map (some w.heap.size)) hw hd ?_ (h w.heap.size _ (hp.comp (Hp.newBlk w _)))
  simp [execOp, ho, Instr.makeMap, newObj, Sem.run]
theorem run_keyS {Kt : TypeId} {s : ByteArray} (b : Bool) (m : Nat) (hK : P.underlying Kt = some .string) : (Instr.checkKey b (m + 1) Kt (.string s)).run P w = .ok () w := by simp [Instr.checkKey, run_underlying hK, Sem.run]
theorem rd_lookupS {T Kt E : TypeId} {es : List MapEntry} {clock g : Nat} {s : ByteArray} {zv : Value} {r : Option (Nat × Value)} (ho : o.op = .lookup T x y true) (hx : ev n f x = .map (some g)) (hy : ev n f y = .string s) (hT : P.underlying T = some (.map Kt E)) (hK : P.underlying Kt = some .string) (hz : (P.info? E).bind (·.zero) = some zv)
    (hg : (Res.blk g (.map ⟨es⟩ clock)).at_ w) (hf : Instr.findNow .string (.string s) es 0 = some r) : Rd P n f o w (.tuple #[(r.map (·.2)).getD zv, .bool r.isSome]) := by
  have hg' : w.heap[g]? = some (.map ⟨es⟩ clock) := hg
  have h1 : ∀ b, (Instr.checkKey b 10000 Kt (.string s)).run P w = .ok () w := fun b => run_keyS b 9999 hK
  have h2 : (Instr.findKey Kt (.string s) es).run P w = .ok r w := by simp [Instr.findKey, run_underlying hK, hf, Sem.run]
  cases r with
  | none => simp [Rd, execOp, ho, hx, hy, Instr.lookup, run_underlying hT, getObj, hg', h1, h2, run_zero hz, Sem.run]
  | some q => obtain ⟨i, v⟩ := q; simp [Rd, execOp, ho, hx, hy, Instr.lookup, run_underlying hT, getObj, hg', h1, h2, Sem.run]
theorem GL_mapPut {T Kt E : TypeId} {i g clock : Nat} {es : List MapEntry} {s : ByteArray} {v : Value} (hw : Wn n ops f o) (hd : o.dst = none) (ho : o.op = .mapUpdate T x y z) (hx : ev n f x = .map (some g)) (hy : ev n f y = .string s) (hv : ev n f z = v) (hT : P.underlying T = some (.map Kt E)) (hK : P.underlying Kt = some .string)
    (hp : Hp w0 S w H) (hi : H[i]? = some (.blk g (.map ⟨es⟩ clock))) (hf : Instr.findNow .string (.string s) es 0 = some none)
    (h : ∀ w', Hp w0 S w' (H.set i (.blk g (.map ⟨es ++ [{ key := .string s, val := v, born := clock }]⟩ (clock + 1)))) → GL P n ops rest f w' K) : GL P n ops (o :: rest) f w K := by
  have hg : w.heap[g]? = some (.map ⟨es⟩ clock) := hp.get i hi
  have hlt : g < w.heap.size := (Array.getElem?_eq_some_iff.1 hg).1
  have h1 : (Instr.checkKey false 10000 Kt (.string s)).run P w = .ok () w := run_keyS false 9999 hK
  have h2 : (Instr.findKey Kt (.string s) es).run P w = .ok none w := by simp [Instr.findKey, run_underlying hK, hf, Sem.run]
  let ob : Obj := .map ⟨es ++ [{ key := .string s, val := v, born := clock }]⟩ (clock + 1)
  have hk : Hp w [g] { w with heap := w.heap.setIfInBounds g ob } [.blk g ob] := by
    refine ⟨⟨rfl, rfl, rfl, by simp, fun k hk hn => ?_⟩, ?_, by simp [Res.foot], by simp⟩
    · simp only [List.mem_singleton] at hn
      show (w.heap.setIfInBounds g ob)[k]? = _
      rw [Array.getElem?_setIfInBounds_ne (fun e => hn e.symm)]
    · intro r hr
      simp only [List.mem_singleton] at hr
      subst hr
      show (w.heap.setIfInBounds g ob)[g]? = _
      rw [Array.getElem?_setIfInBounds_self_of_lt hlt]
  refine GL_do (w' := { w with heap := w.heap.setIfInBounds g ob }) hw hd ?_ (h _ (hp.turnAt i hi hk))
  simp [execOp, ho, hx, hy, hv, Instr.mapUpdate, run_underlying hT, getObj, setObj, hg, h1, h2, Sem.run, ob]
end maps
/-! ### Classes -/
structure Cls where
  nm : ByteArray
  pd : Int
  ev : Bool
  pr : Bool
instance : Inhabited Cls := ⟨⟨⟨#[]⟩, 0, false, false⟩⟩
def clC (c : Cls) : List Value := [.string c.nm, .int .i64 c.pd, .bool c.ev, .bool c.pr]
theorem clC_len (c : Cls) : (clC c).length = 4 := rfl
theorem clC_one (c : Cls) : ∀ u ∈ clC c, u.oneCell' = true := oneC rfl (oneC rfl (oneC rfl (one1 rfl)))
theorem clC_lt {c : Cls} {j : Nat} {u : Value} (h : (clC c)[j]? = some u) : j < 4 := (List.getElem?_eq_some_iff.1 h).1
def clAt (l : List Cls) (i : Nat) : Cls := l.getD i default
theorem clAt_some {l : List Cls} {i : Nat} (hi : i < l.length) : l[i]? = some (clAt l i) := by rw [clAt, List.getD_eq_getElem?_getD, List.getElem?_eq_getElem hi]; rfl
theorem cl_cell {l : List Cls} {i j : Nat} {u : Value} (hi : i < l.length) (hu : (clC (clAt l i))[j]? = some u) (hj : j < 4) : (l.flatMap clC)[i * 4 + j]? = some u := (flat_get clC_len l i j (clAt l i) hj (clAt_some hi)).trans hu
def clsEq (a b : Cls) : Bool := decide (a.nm = b.nm) && (decide (a.pd = b.pd) && ((a.ev == b.ev) && (a.pr == b.pr)))
theorem clsEq_iff {a b : Cls} : clsEq a b = true ↔ a = b := by
  cases a; cases b
  simp only [clsEq, Bool.and_eq_true, decide_eq_true_eq, beq_iff_eq, Cls.mk.injEq]
/-- A struct of a text, a number and two bits. -/
def ClsAt (P : Program) (T : Nat) : Prop := ∃ (fs : Array Field) (f0 f1 f2 f3 : Field), P.underlying T = some (.struct fs) ∧ P.stoodInHeld T = false ∧ P.eqGuardType P.depth T = false ∧ fs.toList = [f0, f1, f2, f3] ∧
  (f0.name ≠ "_" ∧ f0.offset = 0 ∧ P.underlying f0.type = some .string) ∧ (f1.name ≠ "_" ∧ f1.offset = 1 ∧ P.underlying f1.type = some (.int .i64)) ∧ (f2.name ≠ "_" ∧ f2.offset = 2 ∧ P.underlying f2.type = some .bool) ∧ (f3.name ≠ "_" ∧ f3.offset = 3 ∧ P.underlying f3.type = some .bool)
theorem run_part_plain {P : Program} {w : World} {t off : Nat} {d : TypeDesc} {cs : Array Value} {v : Value} (hu : P.underlying t = some d) (hd : plainT d = true) (hv : cs[off]? = some v) : (part t cs off).run P w = .ok v w := by
  cases d <;> simp [plainT] at hd <;> simp [part, isAgg, run_underlying hu, hv, Sem.run]
theorem bytes_beq (a b : ByteArray) : (a.toList == b.toList) = decide (a = b) := by
  exact toList_beq a b
theorem bytes_beq2 (a b : ByteArray) : (a == b) = decide (a = b) := (beq_toListBytes a b).trans (toList_beq a b)
theorem bo_cls {P : Program} {T : TypeId} {a b : Cls} {w : World} {x y : Operand} (hT : ClsAt P T) : Bo P .eql T x y (.agg ⟨clC a⟩) (.agg ⟨clC b⟩) w (.bool (clsEq a b)) ∧ Bo P .neq T x y (.agg ⟨clC a⟩) (.agg ⟨clC b⟩) w (.bool (!clsEq a b)) := by
  obtain ⟨fs, f0, f1, f2, f3, hu, hst, hg, hl, ⟨n0, o0, t0⟩, ⟨n1, o1, t1⟩, ⟨n2, o2, t2⟩, ⟨n3, o3, t3⟩⟩ := hT
  have hfo : P.fieldsOf T = fs := by simp [Program.fieldsOf, hu]
  have he := run_equalIn_struct (P := P) w 9999 T ⟨clC a⟩ ⟨clC b⟩ (by rw [hfo]; exact hu) hst
  have p : ∀ (c : Cls), (part f0.type ⟨clC c⟩ f0.offset).run P w = .ok (.string c.nm) w ∧ (part f1.type ⟨clC c⟩ f1.offset).run P w = .ok (.int .i64 c.pd) w ∧ (part f2.type ⟨clC c⟩ f2.offset).run P w = .ok (.bool c.ev) w ∧ (part f3.type ⟨clC c⟩ f3.offset).run P w = .ok (.bool c.pr) w := fun c =>
    ⟨run_part_plain t0 rfl (by rw [o0]; rfl), run_part_plain t1 rfl (by rw [o1]; rfl), run_part_plain t2 rfl (by rw [o2]; rfl), run_part_plain t3 rfl (by rw [o3]; rfl)⟩
  have key : (Op.eqFields 9999 ⟨clC a⟩ ⟨clC b⟩ fs.toList).run P w = .ok (clsEq a b) w := by
    have q0 := run_equalIn_string (P := P) w 9998 f0.type a.nm b.nm t0
    have q1 := run_equalIn_int (P := P) w 9998 f1.type .i64 .i64 a.pd b.pd t1
    have q2 := run_equalIn_bool (P := P) w 9998 f2.type a.ev b.ev t2
    have q3 := run_equalIn_bool (P := P) w 9998 f3.type a.pr b.pr t3
    rw [bytes_beq] at q0
    rw [hl]
    obtain ⟨a0, a1, a2, a3⟩ := p a
    obtain ⟨b0, b1, b2, b3⟩ := p b
    simp only [Op.eqFields, if_pos n0, if_pos n1, if_pos n2, if_pos n3, Sem.run_bind, a0, b0, Result.andThen_ok, q0]
    unfold clsEq
    cases e0 : decide (a.nm = b.nm) with
    | false => simp [Sem.run]
    | true =>
      simp only [Bool.not_true, Bool.false_eq_true, if_false, if_true, Bool.true_and, Sem.run_bind, a1, b1, Result.andThen_ok, q1]
      have e5 : (a.pd == b.pd) = decide (a.pd = b.pd) := by first | rfl | exact beq_eq_decide _ _
      rw [e5]
      cases e1 : decide (a.pd = b.pd) with
      | false => simp [Sem.run]
      | true =>
        simp only [Bool.not_true, Bool.false_eq_true, if_false, if_true, Bool.true_and, Sem.run_bind, a2, b2, Result.andThen_ok, q2]
        cases e2 : (a.ev == b.ev) with
        | false => simp [Sem.run]
        | true =>
          simp only [Bool.not_true, Bool.false_eq_true, if_false, if_true, Bool.true_and, Sem.run_bind, a3, b3, Result.andThen_ok, q3]
          cases e3 : (a.pr == b.pr) with
          | false => first | rfl | simp [Sem.run]
          | true => first | rfl | simp [Sem.run]
  rw [hfo, key] at he
  constructor
  · exact bo_of (run_eqGuard_agg w _ T x y _ _ hg) (by rw [run_eql_struct, he]; rfl)
  · exact bo_of (run_eqGuard_agg w _ T x y _ _ hg) (by rw [run_neq_struct, he]; rfl)
/-! Names. -/
def nmB (b : UInt8) : Bool := decide (97 ≤ b.toNat ∧ b.toNat ≤ 122 ∨ 48 ≤ b.toNat ∧ b.toNat ≤ 57 ∨ b.toNat = 45)
def nameB (s : ByteArray) : Bool := decide (1 ≤ s.size ∧ s.size ≤ 15) && s.data.toList.all nmB
def nameC (s : ByteArray) : Int := if nameB s then 0 else 10
theorem nameC_size {s : ByteArray} (h : ¬ (1 ≤ s.size ∧ s.size ≤ 15)) : nameC s = 10 := by rw [nameC, nameB, decide_eq_false h]; rfl
theorem nameC_bad {s : ByteArray} {i : Nat} (hi : i < s.size) (h : nmB s[i] = false) : nameC s = 10 := by
  have e : s.data.toList.all nmB = false := List.all_eq_false.2 ⟨s[i], Array.mem_toList_iff.2 (Array.getElem_mem (xs := s.data) hi), by simp [h]⟩
  rw [nameC, nameB, e, Bool.and_false]; rfl
theorem nameC_good {s : ByteArray} (h : 1 ≤ s.size ∧ s.size ≤ 15) (ha : ∀ j, (hj : j < s.size) → nmB s[j] = true) : nameC s = 0 := by
  have e : s.data.toList.all nmB = true := List.all_eq_true.2 fun b hb => by
    obtain ⟨j, hj⟩ := List.getElem?_of_mem hb
    obtain ⟨hj1, hj2⟩ := List.getElem?_eq_some_iff.1 hj
    have := ha j (by simpa using hj1)
    rw [← hj2]
    exact this
  rw [nameC, nameB, e, decide_eq_true h]; rfl
theorem nameC_zero {s : ByteArray} : nameC s = 0 ↔ nameB s = true := by unfold nameC; cases nameB s <;> simp
def perB (p : Int) : Bool := decide (0 ≤ p ∧ p ≤ 1099511627776)
def clsC (c : Cls) : Int := if nameC c.nm = 0 then (if perB c.pd then 0 else 2) else nameC c.nm
/-! A list of them. -/
def findI (l : List Cls) (s : ByteArray) : Option Nat := l.findIdx? fun c => decide (c.nm = s)
def findV (l : List Cls) (s : ByteArray) : Int := match findI l s with | some i => (i : Int) | none => -1
theorem findI_at {l : List Cls} {s : ByteArray} {i : Nat} (hi : i < l.length) (hb : ∀ j, j < i → ¬ (clAt l j).nm = s) (h : (clAt l i).nm = s) : findI l s = some i := by
  rw [findI, List.findIdx?_eq_some_iff_getElem]
  have e : ∀ j (hj : j < l.length), l[j] = clAt l j := fun j hj => by
    have := clAt_some hj
    rw [List.getElem?_eq_getElem hj] at this
    exact Option.some.inj this
  refine ⟨hi, by rw [e]; exact decide_eq_true h, fun j hj => ?_⟩
  rw [e j (by omega)]
  simpa using hb j hj
theorem findI_none {l : List Cls} {s : ByteArray} (hb : ∀ j, j < l.length → ¬ (clAt l j).nm = s) : findI l s = none := by
  rw [findI, List.findIdx?_eq_none_iff]
  intro c hc
  obtain ⟨j, hj⟩ := List.getElem?_of_mem hc
  have hjl := (List.getElem?_eq_some_iff.1 hj).1
  have := clAt_some hjl
  rw [hj] at this
  have e := Option.some.inj this
  rw [e]
  simpa using hb j hjl
theorem findI_lt {l : List Cls} {s : ByteArray} {i : Nat} (h : findI l s = some i) : i < l.length ∧ (clAt l i).nm = s := by
  rw [findI, List.findIdx?_eq_some_iff_getElem] at h
  obtain ⟨hi, h1, _⟩ := h
  refine ⟨hi, ?_⟩
  have := clAt_some hi
  rw [List.getElem?_eq_getElem hi] at this
  rw [← Option.some.inj this]
  exact of_decide_eq_true h1
/-! The map beside them: from a name to its place. -/
def mapE (k : Nat) : List Cls → List MapEntry
  | [] => []
  | c :: l => { key := .string c.nm, val := .int .i64 (k : Int), born := k } :: mapE (k + 1) l
theorem mapE_snoc (c : Cls) : ∀ (l : List Cls) (k : Nat), mapE k (l ++ [c]) = mapE k l ++ [{ key := .string c.nm, val := .int .i64 ((k + l.length : Nat) : Int), born := k + l.length }]
  | [], k => rfl
  | x :: l, k => by
    have ih := mapE_snoc c l (k + 1)
    have e : k + 1 + l.length = k + (x :: l).length := by simp only [List.length_cons]; omega
    rw [e] at ih
    show _ :: mapE (k + 1) (l ++ [c]) = _
    rw [ih]; rfl
theorem mapE_names {l m : List Cls} (k : Nat) (h : l.map (·.nm) = m.map (·.nm)) : mapE k l = mapE k m := by
  induction l generalizing m k with
  | nil => cases m with
    | nil => rfl
    | cons y m => cases h
  | cons x l ih => cases m with
    | nil => cases h
    | cons y m =>
      simp only [List.map_cons, List.cons.injEq] at h
      simp only [mapE, h.1, ih (k + 1) h.2]
theorem map_find (s : ByteArray) : ∀ (l : List Cls) (k : Nat), Instr.findNow .string (.string s) (mapE k l) k = some ((findI l s).map fun i => (k + i, Value.int .i64 ((k + i : Nat) : Int)))
  | [], k => rfl
  | c :: l, k => by
    have ih := map_find s l (k + 1)
    have e : (s == c.nm) = decide (c.nm = s) := by
      rw [bytes_beq2, decide_eq_decide]
      exact eq_comm
    simp only [mapE, Instr.findNow, Instr.sameNow, e]
    rw [findI, List.findIdx?_cons]
    by_cases h : c.nm = s
    · rw [decide_eq_true h]; rfl
    · rw [decide_eq_false h]
      simp only [ih, findI]
      cases List.findIdx? (fun c => decide (c.nm = s)) l with
      | none => rfl
      | some i =>
        show some (some (k + 1 + i, Value.int .i64 ((k + 1 + i : Nat) : Int))) = some (some (k + (i + 1), Value.int .i64 ((k + (i + 1) : Nat) : Int)))
        rw [show k + 1 + i = k + (i + 1) by omega]
def claC (l : List Cls) (c : Cls) : Int := if clsC c = 0 then (if (findI l c.nm).isSome then 9 else if 8 ≤ l.length then 7 else 0) else clsC c
def claL (l : List Cls) (c : Cls) : List Cls := if claC l c = 0 then l ++ [c] else l
def lonC (l : List Cls) (s : ByteArray) (p : Int) : Int := match findI l s with | none => 8 | some i => if perB p then (if p < (clAt l i).pd then 12 else 0) else 2
def setP (l : List Cls) (i : Nat) (p : Int) : List Cls := l.set i { clAt l i with pd := p }
def lonL (l : List Cls) (s : ByteArray) (p : Int) : List Cls := match findI l s with | none => l | some i => if lonC l s p = 0 then setP l i p else l
theorem setP_names (l : List Cls) (i : Nat) (p : Int) : (setP l i p).map (·.nm) = l.map (·.nm) := by
  by_cases hi : i < l.length
  · apply List.ext_getElem (by simp [setP])
    intro j h1 h2
    simp only [setP, List.getElem_map, List.getElem_set]
    split
    · rename_i e; subst e
      have := clAt_some hi
      rw [List.getElem?_eq_getElem hi] at this
      rw [Option.some.inj this]
    · rfl
  · rw [setP, List.set_eq_of_length_le (by omega)]
theorem setP_length (l : List Cls) (i : Nat) (p : Int) : (setP l i p).length = l.length := by simp [setP]
theorem setP_cells {l : List Cls} {i : Nat} {p : Int} (hi : i < l.length) : splice (l.flatMap clC) (i * 4 + 1) [.int .i64 p] = (setP l i p).flatMap clC := by
  have h1 := flat_set clC_len l i { clAt l i with pd := p } hi
  rw [setP, ← h1]
  have e0 : (l.flatMap clC).length = l.length * 4 := flat_length clC_len l
  have hb : i * 4 + 4 ≤ (l.flatMap clC).length := by omega
  have g : ∀ j u, j < 4 → (clC (clAt l i))[j]? = some u → (l.flatMap clC)[i * 4 + j]? = some u := fun j u hj hu => cl_cell hi hu hj
  apply List.ext_getElem?
  intro q
  have s1 : ∀ (vs : List Value) (k : Nat), k + vs.length ≤ (l.flatMap clC).length → (splice (l.flatMap clC) k vs)[q]? = if q < k then (l.flatMap clC)[q]? else if q < k + vs.length then vs[q - k]? else (l.flatMap clC)[q]? := fun vs k hk => by
    simp only [splice]
    split
    · rename_i hq; rw [List.getElem?_append_left (by rw [List.length_take]; omega), List.getElem?_take, if_pos hq]
    · rename_i hq
      split
      · rename_i hq2; rw [List.getElem?_append_right (by rw [List.length_take]; omega), List.getElem?_append_left (by rw [List.length_take]; omega), List.length_take, Nat.min_eq_left (by omega)]
      · rename_i hq2; rw [List.getElem?_append_right (by rw [List.length_take]; omega), List.getElem?_append_right (by rw [List.length_take]; omega), List.getElem?_drop, List.length_take, Nat.min_eq_left (by omega)]; congr 1; omega
  rw [s1 [.int .i64 p] (i * 4 + 1) (by show i * 4 + 1 + 1 ≤ _; omega), s1 (clC { clAt l i with pd := p }) (i * 4) (by show i * 4 + 4 ≤ _; exact hb)]
  have c4 : (clC { clAt l i with pd := p }).length = 4 := rfl
  by_cases h2 : q < i * 4
  · rw [if_pos (by omega), if_pos h2]
  · rw [if_neg h2, c4]
    by_cases h3 : q < i * 4 + 4
    · rw [if_pos h3]
      rcases (show q = i * 4 ∨ q = i * 4 + 1 ∨ q = i * 4 + 2 ∨ q = i * 4 + 3 by omega) with rfl | rfl | rfl | rfl
      · rw [if_pos (by omega), Nat.sub_self]; exact g 0 _ (by decide) rfl
      · rw [if_neg (by omega), if_pos (by simp), Nat.sub_self, show i * 4 + 1 - i * 4 = 1 by omega]; rfl
      · rw [if_neg (by omega), if_neg (by simp), show i * 4 + 2 - i * 4 = 2 by omega]; exact g 2 _ (by decide) rfl
      · rw [if_neg (by omega), if_neg (by simp), show i * 4 + 3 - i * 4 = 3 by omega]; exact g 3 _ (by decide) rfl
    · rw [if_neg h3, if_neg (by omega), if_neg (by simp; omega)]
def optP (r : Option Nat) : Int := match r with | some i => (i : Int) | none => 0
theorem rd_lookupC {P : Program} {n : Nat} {f : Fm} {w : World} {o : Oper} {x y : Operand} {T Kt E : TypeId} {c g : Nat} {l : List Cls} {s : ByteArray} {r : Option Nat} (hr : findI l s = r) (ho : o.op = .lookup T x y true) (hx : ev n f x = .map (some g)) (hy : ev n f y = .string s) (hT : P.underlying T = some (.map Kt E)) (hK : P.underlying Kt = some .string) (hz : (P.info? E).bind (·.zero) = some (.int .i64 0))
    (hg : (Res.blk g (.map ⟨mapE 0 l⟩ c)).at_ w) : Rd P n f o w (.tuple #[.int .i64 (optP r), .bool r.isSome]) := by
  have h := rd_lookupS (zv := .int .i64 0) ho hx hy hT hK hz hg (map_find s l 0)
  rw [hr] at h
  cases r with
  | none => exact h
  | some i => simpa [optP] using h
theorem map_none {l : List Cls} {s : ByteArray} (h : findI l s = none) : Instr.findNow .string (.string s) (mapE 0 l) 0 = some none := by rw [map_find, h]; rfl
theorem setP_cells0 {l : List Cls} {i : Nat} {p : Int} (hi : i < l.length) : splice (l.flatMap clC) (0 + i * 4 + 1) [.int .i64 p] = (setP l i p).flatMap clC := by rw [Nat.zero_add]; exact setP_cells hi
theorem lon_none {l : List Cls} {s : ByteArray} (p : Int) (h : findI l s = none) : lonC l s p = 8 ∧ lonL l s p = l := by simp only [lonC, lonL, h, and_self]
theorem lon_range {l : List Cls} {s : ByteArray} {p : Int} {i : Nat} (h : findI l s = some i) (hp : perB p = false) : lonC l s p = 2 ∧ lonL l s p = l := by simp [lonC, lonL, h, hp]
theorem lon_kept {l : List Cls} {s : ByteArray} {p : Int} {i : Nat} (h : findI l s = some i) (hp : perB p = true) (hk : p < (clAt l i).pd) : lonC l s p = 12 ∧ lonL l s p = l := by simp [lonC, lonL, h, hp, hk]
theorem lon_yes {l : List Cls} {s : ByteArray} {p : Int} {i : Nat} (h : findI l s = some i) (hp : perB p = true) (hk : ¬ p < (clAt l i).pd) : lonC l s p = 0 ∧ lonL l s p = setP l i p := by simp [lonC, lonL, h, hp, hk]
theorem lon_names (l : List Cls) (s : ByteArray) (p : Int) : (lonL l s p).map (·.nm) = l.map (·.nm) := by
  unfold lonL
  split
  · rfl
  · split
    · exact setP_names _ _ _
    · rfl
theorem lonL_length (l : List Cls) (s : ByteArray) (p : Int) : (lonL l s p).length = l.length := by
  have := congrArg List.length (lon_names l s p)
  simpa using this
theorem cla_no {l : List Cls} {c : Cls} (h : ¬ clsC c = 0) : claC l c = clsC c ∧ claL l c = l := by simp [claC, claL, h]
theorem cla_twice {l : List Cls} {c : Cls} {i : Nat} (h : clsC c = 0) (hf : findI l c.nm = some i) : claC l c = 9 ∧ claL l c = l := by simp [claC, claL, h, hf]
theorem cla_full {l : List Cls} {c : Cls} (h : clsC c = 0) (hf : findI l c.nm = none) (h8 : 8 ≤ l.length) : claC l c = 7 ∧ claL l c = l := by simp [claC, claL, h, hf, h8]
theorem cla_yes {l : List Cls} {c : Cls} (h : clsC c = 0) (hf : findI l c.nm = none) (h8 : ¬ 8 ≤ l.length) : claC l c = 0 ∧ claL l c = l ++ [c] := by simp [claC, claL, h, hf, h8]
/-- What a list of classes is that came to be by adding. -/
def ClsOk (l : List Cls) : Prop := l.length ≤ 8 ∧ (∀ i, i < l.length → clsC (clAt l i) = 0) ∧ ∀ i j, i < j → j < l.length → ¬ (clAt l i).nm = (clAt l j).nm
theorem ClsOk.nil : ClsOk [] := ⟨by decide, fun i h => (by cases h), fun i j _ h => (by cases h)⟩
theorem clAt_left {l m : List Cls} {i : Nat} (h : i < l.length) : clAt (l ++ m) i = clAt l i := by rw [clAt, clAt, List.getD_eq_getElem?_getD, List.getD_eq_getElem?_getD, List.getElem?_append_left h]
theorem clAt_last (l : List Cls) (c : Cls) : clAt (l ++ [c]) l.length = c := by rw [clAt, List.getD_eq_getElem?_getD]; simp
theorem clAt_take {l : List Cls} {i k : Nat} (h : i < k) : clAt (l.take k) i = clAt l i := by rw [clAt, clAt, List.getD_eq_getElem?_getD, List.getD_eq_getElem?_getD, List.getElem?_take, if_pos h]
theorem clAt_setP {l : List Cls} {i j : Nat} {p : Int} (hi : i < l.length) : clAt (setP l i p) j = if j = i then { clAt l i with pd := p } else clAt l j := by
  unfold setP
  split
  · rename_i e; subst e; rw [clAt, List.getD_eq_getElem?_getD, List.getElem?_set_self hi]; rfl
  · rename_i e
    show (l.set i { clAt l i with pd := p }).getD j default = l.getD j default
    simp only [List.getD_eq_getElem?_getD]
    rw [List.getElem?_set_ne (Ne.symm e)]
theorem ClsOk.add {l : List Cls} (h : ClsOk l) (c : Cls) : ClsOk (claL l c) := by
  unfold claL
  split
  · rename_i h0
    have hc : clsC c = 0 := by
      by_cases q : clsC c = 0
      · exact q
      · exact absurd ((cla_no (l := l) q).1.symm.trans h0) q
    have hf : findI l c.nm = none := by
      cases q : findI l c.nm with
      | none => rfl
      | some i => rw [(cla_twice hc q).1] at h0; cases h0
    have h8 : ¬ 8 ≤ l.length := fun q => by rw [(cla_full hc hf q).1] at h0; cases h0
    refine ⟨by rw [List.length_append]; simp; omega, fun i hi => ?_, fun i j hij hj => ?_⟩
    · rw [List.length_append, List.length_singleton] at hi
      by_cases e : i < l.length
      · rw [clAt_left e]; exact h.2.1 i e
      · obtain rfl : i = l.length := by omega
        rw [clAt_last]; exact hc
    · rw [List.length_append, List.length_singleton] at hj
      rw [clAt_left (by omega)]
      by_cases e : j < l.length
      · rw [clAt_left e]; exact h.2.2 i j hij e
      · obtain rfl : j = l.length := by omega
        rw [clAt_last]
        intro q
        rw [findI, List.findIdx?_eq_none_iff] at hf
        have := hf _ (List.mem_of_getElem? (clAt_some (show i < l.length by omega)))
        simp [q] at this
  · exact h
theorem clsC_zero {c : Cls} : clsC c = 0 ↔ nameC c.nm = 0 ∧ perB c.pd = true := by
  unfold clsC
  by_cases h : nameC c.nm = 0
  · rw [if_pos h]; cases perB c.pd <;> simp [h]
  · rw [if_neg h]; simp [h]
theorem ClsOk.longer {l : List Cls} (h : ClsOk l) (s : ByteArray) (p : Int) : ClsOk (lonL l s p) := by
  cases hf : findI l s with
  | none => rw [(lon_none p hf).2]; exact h
  | some i =>
    cases hp : perB p with
    | false => rw [(lon_range hf hp).2]; exact h
    | true =>
      by_cases hk : p < (clAt l i).pd
      · rw [(lon_kept hf hp hk).2]; exact h
      · rw [(lon_yes hf hp hk).2]
        have hi := (findI_lt hf).1
        refine ⟨by rw [setP_length]; exact h.1, fun j hj => ?_, fun j k hjk hk2 => ?_⟩
        · rw [setP_length] at hj
          rw [clAt_setP hi]
          split
          · exact clsC_zero.2 ⟨(clsC_zero.1 (h.2.1 i hi)).1, hp⟩
          · exact h.2.1 j hj
        · rw [setP_length] at hk2
          have g : ∀ q, (clAt (setP l i p) q).nm = (clAt l q).nm := fun q => by
            rw [clAt_setP hi]; split
            · rename_i e; subst e; rfl
            · rfl
          rw [g, g]; exact h.2.2 j k hjk hk2
theorem ClsOk.step {l : List Cls} (h : ClsOk l) {i : Nat} (hi : i < l.length) : claC (l.take i) (clAt l i) = 0 ∧ claL (l.take i) (clAt l i) = l.take (i + 1) := by
  have hl : (l.take i).length = i := by rw [List.length_take]; omega
  have hf : findI (l.take i) (clAt l i).nm = none := findI_none fun j hj => by
    rw [hl] at hj
    rw [clAt_take hj]
    exact h.2.2 j i hj hi
  have h1 := cla_yes (h.2.1 i hi) hf (by rw [hl]; have := h.1; omega)
  exact ⟨h1.1, by rw [h1.2, take_one (clAt_some hi)]⟩
theorem bytes_empty {s : ByteArray} (h : s.size = 0) : s = ⟨#[]⟩ := by
  cases s with
  | mk d => congr 1; exact Array.eq_empty_of_size_eq_zero h
theorem setP_cellsN {l : List Cls} {i : Nat} {p : Int} (hi : i < l.length) : splice ([] ++ l.flatMap clC) (0 + i * 4 + 1) [.int .i64 p] = (setP l i p).flatMap clC := by rw [List.nil_append]; exact setP_cells0 hi
/-! As a sector. -/
def flagB (ev pr : Bool) : UInt8 := (if ev then 1 else 0) + (if pr then 2 else 0)
def clsB (c : Cls) : List UInt8 := padL c.nm.data.toList 16 ++ (putL c.pd.toNat 6 ++ [flagB c.ev c.pr])
def clssB (l : List Cls) : List UInt8 := UInt8.ofNat l.length :: l.flatMap clsB
def clsS (l : List Cls) : List UInt8 := secL (clssB l)
theorem clsS_length (l : List Cls) : (clsS l).length = 256 := secL_length _
theorem nameC_le {s : ByteArray} (h : nameC s = 0) : 1 ≤ s.size ∧ s.size ≤ 15 := by
  have := nameC_zero.1 h
  simp only [nameB, Bool.and_eq_true, decide_eq_true_eq] at this
  exact this.1
theorem name_pad {s : ByteArray} (h : s.size ≤ 15) : padOk s.data.toList.length 16 = true := by
  have e : s.data.toList.length = s.size := rfl
  rw [e]
  simp only [padOk, decide_eq_true_eq]
  omega
theorem cls_pad {c : Cls} (h : clsC c = 0) : (padL c.nm.data.toList 16).length = 16 := padL_length _ _ (name_pad (nameC_le (clsC_zero.1 h).1).2)
theorem cls_per {c : Cls} (h : clsC c = 0) : 0 ≤ c.pd ∧ c.pd ≤ 1099511627776 := by have := (clsC_zero.1 h).2; simpa [perB] using this
theorem clsB_length {c : Cls} (h : clsC c = 0) : (clsB c).length = 23 := by simp only [clsB, List.length_append, cls_pad h, putL_length]; rfl
theorem clsB_take {l : List Cls} {i : Nat} (hi : i < l.length) : (l.take (i + 1)).flatMap clsB = (l.take i).flatMap clsB ++ clsB (clAt l i) := by rw [take_one (clAt_some hi), flat_snoc]
theorem flats_length : ∀ {l : List Cls}, (∀ c ∈ l, clsC c = 0) → (l.flatMap clsB).length = 23 * l.length
  | [], _ => rfl
  | c :: l, h => by
    have ih := flats_length (l := l) fun x hx => h x (by simp [hx])
    rw [List.flatMap_cons, List.length_append, ih, clsB_length (h c (by simp)), List.length_cons]; omega
theorem ClsOk.all {l : List Cls} (h : ClsOk l) : ∀ c ∈ l, clsC c = 0 := fun c hc => by
  obtain ⟨j, hj⟩ := List.getElem?_of_mem hc
  have hjl := (List.getElem?_eq_some_iff.1 hj).1
  have := clAt_some hjl
  rw [hj] at this
  rw [Option.some.inj this]
  exact h.2.1 j hjl
theorem clssB_length {l : List Cls} (h : ClsOk l) : (clssB l).length = 1 + 23 * l.length := by rw [clssB, List.length_cons, flats_length h.all]; omega
theorem cls_made {l : List Cls} (h : ClsOk l) : wholeL (sealL ((wholeL (clssB l)).take 252)) = clsS l := by
  have := clssB_length h
  have := h.1
  exact seal_whole (by omega)
theorem cls_step {l : List Cls} {i : Nat} (hi : i < l.length) {f : Int} (hf : f = ((flagB (clAt l i).ev (clAt l i).pr).toNat : Int)) (n : UInt8) : bys (n :: (l.take i).flatMap clsB) ++ bys (padL (clAt l i).nm.data.toList 16) ++ bys (putL (clAt l i).pd.toNat 6) ++ [.int .u8 f] = bys (n :: (l.take (i + 1)).flatMap clsB) := by
  subst hf
  rw [clsB_take hi, clsB]
  have e : ([Value.int .u8 ((flagB (clAt l i).ev (clAt l i).pr).toNat : Int)] : List Value) = bys [flagB (clAt l i).ev (clAt l i).pr] := rfl
  rw [e, ← bys_append, ← bys_append, ← bys_append]
  simp [List.append_assoc]
theorem len_wrap (n : Nat) : IntKind.u8.wrap (n : Int) = ((UInt8.ofNat n).toNat : Int) := by
  have h1 : (UInt8.ofNat n).toNat = n % 256 := UInt8.toNat_ofNat'
  rw [h1, IntKind.wrap_u8]
  omega
/-! A sector that is read. -/
theorem pad_unpad {b : List UInt8} (h : unpadOk b = true) (hl : b.length = 16) : padL (unpadL b) 16 = b := by
  cases b with
  | nil => cases hl
  | cons c r =>
    simp only [List.length_cons] at hl
    have h' := h
    simp only [unpadOk, Bool.and_eq_true, decide_eq_true_eq] at h'
    have e1 : unpadL (c :: r) = r.take c.toNat := by simp only [unpadL, h, if_true]
    have e2 : (r.take c.toNat).length = c.toNat := by rw [List.length_take]; omega
    have hp : padOk (r.take c.toNat).length 16 = true := by rw [e2]; simp only [padOk, decide_eq_true_eq]; omega
    rw [e1, padL_yes hp, e2]
    have e3 := zeroL_eq h'.2
    rw [List.length_drop] at e3
    rw [show (16 : Int).toNat - 1 - c.toNat = r.length - c.toNat by have : (16 : Int).toNat = 16 := rfl; omega, ← e3, List.take_append_drop, UInt8.ofNat_toNat]
def evB (b : UInt8) : Bool := decide (((b &&& 1).toNat : Int) = 1)
def prB (b : UInt8) : Bool := decide (((b &&& 2).toNat : Int) = 2)
theorem flag_of : ∀ b : UInt8, b.toNat ≤ 3 → flagB (evB b) (prB b) = b := by
  intro b h
  have : b = 0 ∨ b = 1 ∨ b = 2 ∨ b = 3 := by
    rcases (show b.toNat = 0 ∨ b.toNat = 1 ∨ b.toNat = 2 ∨ b.toNat = 3 by omega) with q | q | q | q
    · exact .inl (UInt8.toNat_inj.1 q)
    · exact .inr (.inl (UInt8.toNat_inj.1 q))
    · exact .inr (.inr (.inl (UInt8.toNat_inj.1 q)))
    · exact .inr (.inr (.inr (UInt8.toNat_inj.1 q)))
  rcases this with rfl | rfl | rfl | rfl <;> rfl
theorem of_flag (e p : Bool) : (flagB e p).toNat ≤ 3 ∧ evB (flagB e p) = e ∧ prB (flagB e p) = p := by cases e <;> cases p <;> decide
def clF (R : List UInt8) : UInt8 := R.getD 22 0
def clY (R : List UInt8) : Cls := ⟨⟨(unpadL (R.take 16)).toArray⟩, (getL ((R.drop 16).take 6) : Int), evB (clF R), prB (clF R)⟩
theorem cut23 {R : List UInt8} (h : 23 ≤ R.length) : R.take 23 = R.take 16 ++ ((R.drop 16).take 6 ++ [clF R]) := by
  have e1 : R.take 23 = R.take 16 ++ (R.drop 16).take 7 := by rw [← List.take_add]
  have e2 : (R.drop 16).take 7 = (R.drop 16).take 6 ++ [clF R] := by
    rw [List.take_succ_eq_append_getElem (show 6 < (R.drop 16).length by rw [List.length_drop]; omega)]
    congr 1
    simp [clF, List.getD_eq_getElem?_getD, show 22 < R.length by omega]
  rw [e1, e2]
theorem cly_yes {R : List UInt8} (h : 23 ≤ R.length) (hu : unpadOk (R.take 16) = true) (hf : (clF R).toNat ≤ 3) : clsB (clY R) = R.take 23 := by
  have h1 := pad_unpad hu (by rw [List.length_take]; omega)
  have h2 := put_get ((R.drop 16).take 6)
  rw [List.length_take, List.length_drop, Nat.min_eq_left (by omega)] at h2
  have e1 : (clY R).nm.data.toList = unpadL (R.take 16) := rfl
  have e2 : (clY R).pd.toNat = getL ((R.drop 16).take 6) := Int.toNat_natCast _
  rw [clsB, e1, e2, h1, h2, cut23 h]
  congr 2
  exact congrArg (fun b => [b]) (flag_of _ hf)
theorem cly_of {c : Cls} (hc : clsC c = 0) (S : List UInt8) : unpadOk ((clsB c ++ S).take 16) = true ∧ (clF (clsB c ++ S)).toNat ≤ 3 ∧ clY (clsB c ++ S) = c := by
  have hl := cls_pad hc
  have hp := cls_per hc
  have e0 : clsB c ++ S = padL c.nm.data.toList 16 ++ (putL c.pd.toNat 6 ++ ([flagB c.ev c.pr] ++ S)) := by simp only [clsB, List.append_assoc]
  have e1 : (clsB c ++ S).take 16 = padL c.nm.data.toList 16 := by rw [e0, List.take_left' hl]
  have e2 : (clsB c ++ S).drop 16 = putL c.pd.toNat 6 ++ ([flagB c.ev c.pr] ++ S) := by rw [e0, List.drop_left' hl]
  have e3 : ((clsB c ++ S).drop 16).take 6 = putL c.pd.toNat 6 := by rw [e2, List.take_left' (putL_length 6 _)]
  have e4 : clF (clsB c ++ S) = flagB c.ev c.pr := by
    have h1 : (clsB c ++ S).getD 22 0 = ((clsB c ++ S).drop 16).getD 6 0 := by simp [List.getD_eq_getElem?_getD, List.getElem?_drop]
    rw [clF, h1, e2, List.getD_eq_getElem?_getD, List.getElem?_append_right (by rw [putL_length]; exact Nat.le_refl _), putL_length]
    rfl
  have hn := (nameC_le (clsC_zero.1 hc).1).2
  have hu := unpad_pad c.nm.data.toList 16 (name_pad hn)
  have hf := of_flag c.ev c.pr
  refine ⟨by rw [e1]; exact hu.2, by rw [e4]; exact hf.1, ?_⟩
  have g1 : (⟨(unpadL ((clsB c ++ S).take 16)).toArray⟩ : ByteArray) = c.nm := by
    rw [e1]
    exact (congrArg (fun z : List UInt8 => (⟨z.toArray⟩ : ByteArray)) hu.1).trans (ba_eq c.nm)
  have g2 : (getL (((clsB c ++ S).drop 16).take 6) : Int) = c.pd := by
    rw [e3, get_put (by have : (256 : Nat) ^ 6 = 281474976710656 := by decide
                        omega)]
    omega
  rw [clY, g1, g2, e4, hf.2.1, hf.2.2]
def clBody (x : List UInt8) : List UInt8 := (x.take 252).drop 1
def clN (x : List UInt8) : Nat := getL ((x.take 252).take 1)
theorem cls_at {l : List Cls} {x : List UInt8} (h : ClsOk l) (e : clsS l = x) : holdsL x = true ∧ x.take 252 = UInt8.ofNat l.length :: (l.flatMap clsB ++ List.replicate (251 - 23 * l.length) 0) := by
  subst e
  have hl := clssB_length h
  have h8 := h.1
  obtain ⟨h1, h2⟩ := (sec_iff (clsS_length l) (b := clssB l) (by omega)).1 rfl
  refine ⟨h1, h2.trans ?_⟩
  rw [padN, hl, clssB, show 252 - (1 + 23 * l.length) = 251 - 23 * l.length by omega]
  rfl
theorem cls_n {l : List Cls} {x : List UInt8} (h : ClsOk l) (e : clsS l = x) : clN x = l.length ∧ clBody x = l.flatMap clsB ++ List.replicate (251 - 23 * l.length) 0 := by
  have h2 := (cls_at h e).2
  have h8 := h.1
  constructor
  · rw [clN, h2]
    have h1 : (UInt8.ofNat l.length).toNat = l.length % 256 := UInt8.toNat_ofNat'
    simp only [List.take_succ_cons, List.take_zero, getL, h1]
    omega
  · rw [clBody, h2]; rfl
theorem flats_take {l : List Cls} (h : ∀ c ∈ l, clsC c = 0) {i : Nat} (hi : i ≤ l.length) (S : List UInt8) : (l.flatMap clsB ++ S).take (23 * i) = (l.take i).flatMap clsB ∧ (l.flatMap clsB ++ S).drop (23 * i) = (l.drop i).flatMap clsB ++ S := by
  have e : l.flatMap clsB = (l.take i).flatMap clsB ++ (l.drop i).flatMap clsB := by rw [← List.flatMap_append, List.take_append_drop]
  have hl : ((l.take i).flatMap clsB).length = 23 * i := by rw [flats_length fun c hc => h c (List.mem_of_mem_take hc), List.length_take]; omega
  rw [e, List.append_assoc]
  exact ⟨List.take_left' hl, List.drop_left' hl⟩
theorem cls_next {l : List Cls} {x : List UInt8} (h : ClsOk l) (e : clsS l = x) {i : Nat} (hi : i < l.length) : unpadOk (((clBody x).drop (23 * i)).take 16) = true ∧ (clF ((clBody x).drop (23 * i))).toNat ≤ 3 ∧ clY ((clBody x).drop (23 * i)) = clAt l i := by
  obtain ⟨hl1, hl2⟩ := List.getElem?_eq_some_iff.1 (clAt_some hi)
  rw [(cls_n h e).2, (flats_take h.all (by omega) _).2, List.drop_eq_getElem_cons hl1, hl2, List.flatMap_cons, List.append_assoc]
  exact cly_of (h.2.1 i hi) _
theorem clsB_inj : ∀ {l m : List Cls}, (∀ c ∈ l, clsC c = 0) → (∀ c ∈ m, clsC c = 0) → l.flatMap clsB = m.flatMap clsB → l = m
  | [], [], _, _, _ => rfl
  | [], y :: m, _, hm, h => by have := congrArg List.length h; rw [flats_length hm] at this; simp at this
  | x :: l, [], hl, _, h => by have := congrArg List.length h; rw [flats_length hl] at this; simp at this
  | x :: l, y :: m, hl, hm, h => by
    rw [List.flatMap_cons, List.flatMap_cons] at h
    have hx := hl x (by simp)
    have hy := hm y (by simp)
    obtain ⟨h1, h2⟩ := List.append_inj h (by rw [clsB_length hx, clsB_length hy])
    have e1 := (cly_of hx []).2.2
    have e2 := (cly_of hy []).2.2
    rw [h1] at e1
    rw [e1.symm.trans e2, clsB_inj (fun c hc => hl c (by simp [hc])) (fun c hc => hm c (by simp [hc])) h2]
theorem cls_pre {l m : List Cls} {x : List UInt8} (h : ClsOk l) (e : clsS l = x) (hm : ClsOk m) {i : Nat} (hi : i ≤ l.length) (hB : m.flatMap clsB = (clBody x).take (23 * i)) : m = l.take i := by
  rw [(cls_n h e).2, (flats_take h.all hi _).1] at hB
  exact clsB_inj hm.all (fun c hc => h.all c (List.mem_of_mem_take hc)) hB
theorem clBody_length {x : List UInt8} (hx : x.length = 256) : (clBody x).length = 251 := by rw [clBody, List.length_drop, List.length_take, hx]; rfl
/-- What is read is what was kept. -/
theorem cls_read {m : List Cls} {x : List UInt8} (hx : x.length = 256) (hh : holdsL x = true) (hm : ClsOk m) (hn : clN x = m.length) (hB : m.flatMap clsB = (clBody x).take (23 * m.length)) (hz : zeroL ((clBody x).drop (23 * m.length)) = true) : clsS m = x := by
  have h8 := hm.1
  have hl := clssB_length hm
  refine ((sec_iff hx (b := clssB m) (by omega)).2 ⟨hh, ?_⟩).symm
  have e0 := zeroL_eq hz
  rw [List.length_drop, clBody_length hx] at e0
  have hx0 : 0 < (x.take 252).length := by rw [List.length_take]; omega
  have e1 : x.take 252 = UInt8.ofNat m.length :: clBody x := by
    rw [clBody]
    conv => lhs; rw [← List.take_append_drop 1 (x.take 252)]
    have e2 : (x.take 252).take 1 = [UInt8.ofNat m.length] := by
      have h1 := put_get ((x.take 252).take 1)
      have hl1 : ((x.take 252).take 1).length = 1 := by rw [List.length_take]; omega
      rw [hl1] at h1
      rw [← h1, show getL ((x.take 252).take 1) = m.length from hn]; rfl
    rw [e2]; rfl
  rw [padN, hl, e1, clssB, List.cons_append, hB, show 252 - (1 + 23 * m.length) = 251 - 23 * m.length by omega, ← e0, List.take_append_drop]
def NoCls (x : List UInt8) : Prop := ∀ l, ClsOk l → ¬ clsS l = x
theorem no_hold {x : List UInt8} (h : ¬ holdsL x = true) : NoCls x := fun l hl e => h (cls_at hl e).1
theorem no_rest {x : List UInt8} (h : ¬ zeroL ((clBody x).drop (23 * clN x)) = true) : NoCls x := fun l hl e => h (by
  have h1 := cls_n hl e
  rw [h1.1, h1.2, (flats_take hl.all (Nat.le_refl _) _).2, List.drop_length]
  exact zeroL_replicate _)
theorem no_text {x : List UInt8} {i : Nat} (hi : i < clN x) (h : unpadOk (((clBody x).drop (23 * i)).take 16) = false) : NoCls x := fun l hl e => by
  have h1 := (cls_next hl e (i := i) (by rw [← (cls_n hl e).1]; exact hi)).1
  rw [h] at h1; cases h1
theorem no_flag {x : List UInt8} {i : Nat} (hi : i < clN x) (h : ¬ (clF ((clBody x).drop (23 * i))).toNat ≤ 3) : NoCls x := fun l hl e => h (cls_next hl e (i := i) (by rw [← (cls_n hl e).1]; exact hi)).2.1
theorem no_add {x : List UInt8} {m : List Cls} {i : Nat} (hi : i < clN x) (hm : ClsOk m) (hB : m.flatMap clsB = (clBody x).take (23 * i)) (h : ¬ claC m (clY ((clBody x).drop (23 * i))) = 0) : NoCls x := fun l hl e => h (by
  have hil : i < l.length := by rw [← (cls_n hl e).1]; exact hi
  rw [cls_pre hl e hm (by omega) hB, (cls_next hl e hil).2.2]
  exact (hl.step hil).1)
theorem unpadL_le {b : List UInt8} : (unpadL b).length ≤ b.length := by
  cases b with
  | nil => exact Nat.le_refl _
  | cons c r =>
    simp only [unpadL]
    split
    · rw [List.length_take, List.length_cons]; omega
    · exact Nat.zero_le _
theorem bo_andB {P : Program} {T : TypeId} {x y : Operand} {w : World} (b : UInt8) (m : Nat) (hm : m < 256) : Bo P .and T x y (.int .u64 (b.toNat : Int)) (.int .u64 (m : Int)) w (.int .u64 ((b &&& UInt8.ofNat m).toNat : Int)) := by
  refine bo_int bo_and ?_
  have hb := b.toNat_lt
  have e : IntKind.u64.bits = 64 := rfl
  rw [e, BitVec.ofInt_natCast, BitVec.ofInt_natCast, BitVec.toNat_and, BitVec.toNat_ofNat, BitVec.toNat_ofNat, Nat.mod_eq_of_lt (by omega), Nat.mod_eq_of_lt (by omega), UInt8.toNat_and]
  have h1 : (UInt8.ofNat m).toNat = m := by rw [UInt8.toNat_ofNat']; omega
  rw [h1]
  have h2 : b.toNat &&& m ≤ m := Nat.and_le_right
  exact u64_nat _ (by omega)
theorem one_get2 {r : List UInt8} {i : Nat} (h : i < r.length) : getL ((r.drop i).take 1) = (r.getD i 0).toNat := by
  rw [List.drop_eq_getElem_cons h, List.take_succ_cons, List.take_zero, getL, getL, List.getD_eq_getElem?_getD, List.getElem?_eq_getElem h]
  rfl
theorem clN_lt (x : List UInt8) : clN x < 256 := by
  have h := getL_lt ((x.take 252).take 1)
  have h2 : 256 ^ ((x.take 252).take 1).length ≤ 256 ^ 1 := Nat.pow_le_pow_right (by decide) (by rw [List.length_take]; omega)
  rw [clN]; omega
theorem clP_lt (R : List UInt8) : getL ((R.drop 16).take 6) < 281474976710656 := by
  have h := getL_lt ((R.drop 16).take 6)
  have h2 : 256 ^ ((R.drop 16).take 6).length ≤ 256 ^ 6 := Nat.pow_le_pow_right (by decide) (by rw [List.length_take]; omega)
  have h3 : (256 : Nat) ^ 6 = 281474976710656 := by decide
  omega
theorem clF_get {R : List UInt8} (h : 22 < R.length) : getL (((R.drop 16).drop 6).take 1) = (clF R).toNat := by
  rw [List.drop_drop, one_get2 h]; rfl
theorem clY_size (R : List UInt8) : (clY R).nm.size ≤ 140737488351232 := by
  have h : (clY R).nm.size = (unpadL (R.take 16)).length := rfl
  have h2 := unpadL_le (b := R.take 16)
  rw [List.length_take] at h2
  omega
theorem drop23 (B : List UInt8) (i : Nat) : B.drop (23 * (i + 1)) = (((B.drop (23 * i)).drop 16).drop 6).drop 1 := by
  simp only [List.drop_drop]; congr 1
theorem claL_yes {l : List Cls} {c : Cls} (h : claC l c = 0) : claL l c = l ++ [c] := by rw [claL, if_pos h]
theorem body_step {l : List Cls} {B : List UInt8} {i : Nat} {c : Cls} (h : claC l c = 0) (hB : l.flatMap clsB = B.take (23 * i)) (hc : clsB c = (B.drop (23 * i)).take 23) : (claL l c).flatMap clsB = B.take (23 * (i + 1)) := by
  rw [claL_yes h, flat_snoc, hB, hc, ← List.take_add]; congr 1
theorem fold_zero (s : BitVec 32) (n : Nat) : (List.replicate (n + 12) (0 : UInt8)).foldl turnB s = (List.replicate 12 (0 : UInt8)).foldl turnB ((List.replicate n (0 : UInt8)).foldl turnB s) := by rw [← List.replicate_append_replicate, List.foldl_append]
theorem crc_zero : (List.replicate 252 (0 : UInt8)).foldl turnB 4294967295#32 = 1503438350#32 := by
  have e12 : (List.replicate 12 (0 : UInt8)).foldl turnB 4294967295#32 = 2217359760#32 := by decide +kernel
  have e24 : (List.replicate 24 (0 : UInt8)).foldl turnB 4294967295#32 = 1547580895#32 := by rw [fold_zero _ 12, e12]; decide +kernel
  have e36 : (List.replicate 36 (0 : UInt8)).foldl turnB 4294967295#32 = 2504609066#32 := by rw [fold_zero _ 24, e24]; decide +kernel
  have e48 : (List.replicate 48 (0 : UInt8)).foldl turnB 4294967295#32 = 225922154#32 := by rw [fold_zero _ 36, e36]; decide +kernel
  have e60 : (List.replicate 60 (0 : UInt8)).foldl turnB 4294967295#32 = 4226643703#32 := by rw [fold_zero _ 48, e48]; decide +kernel
  have e72 : (List.replicate 72 (0 : UInt8)).foldl turnB 4294967295#32 = 4030547117#32 := by rw [fold_zero _ 60, e60]; decide +kernel
  have e84 : (List.replicate 84 (0 : UInt8)).foldl turnB 4294967295#32 = 2335380873#32 := by rw [fold_zero _ 72, e72]; decide +kernel
  have e96 : (List.replicate 96 (0 : UInt8)).foldl turnB 4294967295#32 = 1158388305#32 := by rw [fold_zero _ 84, e84]; decide +kernel
  have e108 : (List.replicate 108 (0 : UInt8)).foldl turnB 4294967295#32 = 4035117580#32 := by rw [fold_zero _ 96, e96]; decide +kernel
  have e120 : (List.replicate 120 (0 : UInt8)).foldl turnB 4294967295#32 = 3332539864#32 := by rw [fold_zero _ 108, e108]; decide +kernel
  have e132 : (List.replicate 132 (0 : UInt8)).foldl turnB 4294967295#32 = 980843233#32 := by rw [fold_zero _ 120, e120]; decide +kernel
  have e144 : (List.replicate 144 (0 : UInt8)).foldl turnB 4294967295#32 = 2415262307#32 := by rw [fold_zero _ 132, e132]; decide +kernel
  have e156 : (List.replicate 156 (0 : UInt8)).foldl turnB 4294967295#32 = 2066286931#32 := by rw [fold_zero _ 144, e144]; decide +kernel
  have e168 : (List.replicate 168 (0 : UInt8)).foldl turnB 4294967295#32 = 4044800875#32 := by rw [fold_zero _ 156, e156]; decide +kernel
  have e180 : (List.replicate 180 (0 : UInt8)).foldl turnB 4294967295#32 = 3400967169#32 := by rw [fold_zero _ 168, e168]; decide +kernel
  have e192 : (List.replicate 192 (0 : UInt8)).foldl turnB 4294967295#32 = 1946220301#32 := by rw [fold_zero _ 180, e180]; decide +kernel
  have e204 : (List.replicate 204 (0 : UInt8)).foldl turnB 4294967295#32 = 2467881432#32 := by rw [fold_zero _ 192, e192]; decide +kernel
  have e216 : (List.replicate 216 (0 : UInt8)).foldl turnB 4294967295#32 = 2070577298#32 := by rw [fold_zero _ 204, e204]; decide +kernel
  have e228 : (List.replicate 228 (0 : UInt8)).foldl turnB 4294967295#32 = 1127669933#32 := by rw [fold_zero _ 216, e216]; decide +kernel
  have e240 : (List.replicate 240 (0 : UInt8)).foldl turnB 4294967295#32 = 1134484460#32 := by rw [fold_zero _ 228, e228]; decide +kernel
  have e252 : (List.replicate 252 (0 : UInt8)).foldl turnB 4294967295#32 = 1503438350#32 := by rw [fold_zero _ 240, e240]; decide +kernel
  exact e252
theorem holds_zero : ¬ holdsL (List.replicate 256 0) = true := by
  intro h
  have e1 : (List.replicate 256 (0 : UInt8)).take 252 = List.replicate 252 0 := by rw [List.take_replicate]; rfl
  have e2 : (List.replicate 256 (0 : UInt8)).drop 252 = List.replicate 4 0 := by rw [List.drop_replicate]
  have e3 : ofB (List.replicate 252 0) = ~~~ (1503438350#32) := by
    have := crc_zero
    show ~~~ ((List.replicate 252 (0 : UInt8)).foldl turnB (~~~ 0#32)) = _
    have e : (~~~ 0#32 : BitVec 32) = 4294967295#32 := by decide
    rw [e, this]
  rw [holdsL, List.length_replicate] at h
  have h4 : (256 - 4) = 252 := rfl
  rw [h4, e1, e2, e3] at h
  exact absurd h (by decide)
theorem clsS_inj {l m : List Cls} (hl : ClsOk l) (hm : ClsOk m) (h : clsS l = clsS m) : l = m := by
  have h1 := cls_n hl h
  have h2 := cls_n hm rfl
  have hle : m.length = l.length := h2.1.symm.trans h1.1
  have hB : m.flatMap clsB = (clBody (clsS m)).take (23 * m.length) := by rw [h2.2, (flats_take hm.all (Nat.le_refl _) _).1, List.take_length]
  have := cls_pre hl h hm (by omega) hB
  rw [this, hle, List.take_length]
def taxN : ByteArray := ⟨#[116, 97, 120]⟩
def clT (p : Int) : Cls := ⟨taxN, p, false, true⟩
def clU : Cls := ⟨taxN, 0, false, false⟩
theorem clT_ok : ClsOk [clT 12] := by
  have := ClsOk.nil.add (clT 12)
  rwa [claL_yes (by decide)] at this
/-! Acts. -/
def opC (o : Int × Cls) : List Value := .int .i64 o.1 :: clC o.2
theorem opC_len (o : Int × Cls) : (opC o).length = 5 := rfl
def opAt (l : List (Int × Cls)) (i : Nat) : Int × Cls := l.getD i (0, default)
theorem opAt_some {l : List (Int × Cls)} {i : Nat} (hi : i < l.length) : l[i]? = some (opAt l i) := by rw [opAt, List.getD_eq_getElem?_getD, List.getElem?_eq_getElem hi]; rfl
theorem op_cell {l : List (Int × Cls)} {i j : Nat} {u : Value} (hi : i < l.length) (hu : (opC (opAt l i))[j]? = some u) (hj : j < 5) : (l.flatMap opC)[i * 5 + j]? = some u := (flat_get opC_len l i j (opAt l i) hj (opAt_some hi)).trans hu
theorem op_sub {l : List (Int × Cls)} {w : World} {g b m m' c i : Nat} (h : Sl w (.slice (some ⟨g, b, none⟩) m c) 5 m' (l.flatMap opC)) (hi : i < l.length) (j : Nat) (u : Value) (hj : (clC (opAt l i).2)[j]? = some u) : w.cell? ⟨g, b + i * 5 + 1 + j, none⟩ = some u := by
  have := h.elem opC_len i (1 + j) (by have := clC_lt hj; omega) (opAt_some hi) (u := u) (by rw [Nat.add_comm 1 j]; exact hj)
  rwa [← Nat.add_assoc] at this
def lightB (l : List (Int × Cls)) : Bool := decide (l.length ≤ 40) && l.all fun o => decide (o.2.nm.size ≤ 100)
theorem lightB_no {l : List (Int × Cls)} (h : ¬ l.length ≤ 40) : lightB l = false := by rw [lightB, decide_eq_false h]; rfl
theorem lightB_bad {l : List (Int × Cls)} {i : Nat} (hi : i < l.length) (h : ¬ (opAt l i).2.nm.size ≤ 100) : lightB l = false := by
  rw [lightB, List.all_eq_false.2 ⟨_, List.mem_of_getElem? (opAt_some hi), by simpa using h⟩, Bool.and_false]
theorem lightB_yes {l : List (Int × Cls)} (h : l.length ≤ 40) (ha : ∀ i, i < l.length → (opAt l i).2.nm.size ≤ 100) : lightB l = true := by
  rw [lightB, decide_eq_true h, List.all_eq_true.2]
  · rfl
  · intro o ho
    obtain ⟨j, hj⟩ := List.getElem?_of_mem ho
    have hjl := (List.getElem?_eq_some_iff.1 hj).1
    have := opAt_some hjl
    rw [hj] at this
    rw [Option.some.inj this]
    exact decide_eq_true (ha j hjl)
theorem light_len {l : List (Int × Cls)} (h : lightB l = true) : l.length ≤ 40 ∧ ∀ i, i < l.length → (opAt l i).2.nm.size ≤ 100 := by
  simp only [lightB, Bool.and_eq_true, decide_eq_true_eq] at h
  refine ⟨h.1, fun i hi => ?_⟩
  have := List.all_eq_true.1 h.2 _ (List.mem_of_getElem? (opAt_some hi))
  simpa using this
theorem lon_same {l : List Cls} {s : ByteArray} {p : Int} (h : ¬ lonC l s p = 0) : lonL l s p = l := by
  unfold lonL
  split
  · rfl
  · rw [if_neg h]
theorem cla_same {l : List Cls} {c : Cls} (h : ¬ claC l c = 0) : claL l c = l := by rw [claL, if_neg h]
/-- What the reference gave back: the same, or a new row. -/
theorem ref_merge {CL : Nat} {w0 w w' : World} {S : List Nat} {r : Res} {H : List Res} {sv v2 : Value} {L L2 L' : List Cls} {code : Int} (hp : Hp w0 S w (r :: H)) (hmv : ∀ w, r.at_ w → Sl w sv 4 L.length (L.flatMap clC))
    (hor : (¬ code = 0 ∧ v2 = sv ∧ Hp w [] w' []) ∨ (code = 0 ∧ Hp w [] w' [.row CL 4 v2 L2.length (L2.flatMap clC)])) (h1 : ¬ code = 0 → L' = L) (h2 : code = 0 → L' = L2) : ∃ r2, Hp w0 S w' (r2 :: H) ∧ ∀ w, r2.at_ w → Sl w v2 4 L'.length (L'.flatMap clC) := by
  rcases hor with ⟨hc, rfl, hk⟩ | ⟨hc, hk⟩
  · rw [h1 hc]
    exact ⟨r, hp.comp hk, hmv⟩
  · rw [h2 hc]
    exact ⟨_, ((hp.drop 1).comp hk), fun w h => Sl.row h⟩
theorem ClsOk.sizes {l : List Cls} (h : ClsOk l) : ∀ i, i < l.length → (clAt l i).nm.size ≤ 140737488351232 := fun i hi => by
  have := (nameC_le (clsC_zero.1 (h.2.1 i hi)).1).2
  omega
/-- Nothing is shortened. -/
def Grow (L N : List Cls) : Prop := L.length ≤ N.length ∧ ∀ j, j < L.length → (clAt N j).nm = (clAt L j).nm ∧ (clAt N j).ev = (clAt L j).ev ∧ (clAt N j).pr = (clAt L j).pr ∧ (clAt L j).pd ≤ (clAt N j).pd
theorem Grow.refl (L : List Cls) : Grow L L := ⟨Nat.le_refl _, fun j _ => ⟨rfl, rfl, rfl, Int.le_refl _⟩⟩
theorem Grow.add {L N : List Cls} (h : Grow L N) (c : Cls) : Grow L (claL N c) := by
  unfold claL
  split
  · refine ⟨by rw [List.length_append]; have := h.1; omega, fun j hj => ?_⟩
    rw [clAt_left (by have := h.1; omega)]
    exact h.2 j hj
  · exact h
theorem Grow.longer {L N : List Cls} (h : Grow L N) (s : ByteArray) (p : Int) : Grow L (lonL N s p) := by
  by_cases hc : lonC N s p = 0
  · cases hf : findI N s with
    | none => rw [(lon_none p hf).2]; exact h
    | some i =>
      cases hp : perB p with
      | false => rw [(lon_range hf hp).2]; exact h
      | true =>
        by_cases hk : p < (clAt N i).pd
        · rw [(lon_kept hf hp hk).2]; exact h
        · rw [(lon_yes hf hp hk).2]
          have hi := (findI_lt hf).1
          refine ⟨by rw [setP_length]; exact h.1, fun j hj => ?_⟩
          rw [clAt_setP hi]
          have g := h.2 j hj
          split
          · rename_i e; subst e
            exact ⟨g.1, g.2.1, g.2.2.1, by show (clAt L j).pd ≤ p; have := g.2.2.2; omega⟩
          · exact g
  · rw [lon_same hc]; exact h
end Go.Mo
