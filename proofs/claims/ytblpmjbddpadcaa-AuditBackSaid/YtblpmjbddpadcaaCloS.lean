/- Function values that hold places, clear, make with room, counts in maps: the laws of their operations. -/
import Derived.Test.YtblpmjbddpadcaaClassS
import Derived.Lib.SliceRun
set_option linter.unusedVariables false
set_option linter.unusedSimpArgs false
namespace Go.Mo
open Go.RowKit Go.Lib
theorem ba_inj (a b : List UInt8) : ((⟨a.toArray⟩ : ByteArray) = ⟨b.toArray⟩) ↔ a = b := by simp
section clos
variable {P : Program} {n : Nat} {ops : Array Oper} {f : Fm} {w w0 : World} {S : List Nat} {H : List Res} {K : Fm → World → Prop} {o : Oper} {rest : List Oper} {d : Nat} {x y z : Operand}
theorem rd_closure {k : Nat} {xs : Array Operand} {caps : Array Value} (ho : o.op = .makeFunc (.func k) #[] xs) (hx : xs.toList.map (ev n f) = caps.toList) : Rd P n f o w (.func (.func k) #[] caps) := by
  have hx' : xs.map (ev n f) = caps := Array.toList_inj.1 (by rw [Array.toList_map]; exact hx)
  simp [Rd, execOp, ho, hx', Instr.makeFunc, Sem.run]
theorem run_callV {k : Nat} {caps : Array Value} {xs : Array Operand} {ts : Array TypeId} (ho : o.op = .call { callee := .value x, args := xs, argTypes := ts }) (hx : ev n f x = .func (.func k) #[] caps) (hf : IsFn P k) :
    (execOp (ev n f) o).run P w = .ok (.enter k (xs.map (ev n f) ++ caps)) w := by
  obtain ⟨fn, h1, h2, h3⟩ := hf
  have h2' : ¬ fn.name = "runtime.NumGoroutine" := by simpa using h2
  have h3' : ¬ fn.body = none := by intro e; rw [e] at h3; cases h3
  simp [execOp, ho, resolve, hx, Deferred.ofValue, invoke, callFunc, program, Sem.run, h1, h2', h3']
/-- A call of a function value. -/
theorem GL_callV {k : Nat} {caps : Array Value} {xs : Array Operand} {ts : Array TypeId} {args : Array Value} {post : Value → World → Prop} (hw : Wn n ops f o) (hd : o.dst = some d)
    (ho : o.op = .call { callee := .value x, args := xs, argTypes := ts }) (hx : ev n f x = .func (.func k) #[] caps)
    (hc : Does P k args w post) (ha : xs.toList.map (ev n f) ++ caps.toList = args.toList) (h : ∀ v w', post v w' → GL P n ops rest (upd f d v) w' K) : GL P n ops (o :: rest) f w K :=
  GL_enter hw (by
    have ha' : xs.map (ev n f) ++ caps = args := Array.toList_inj.1 (by rw [Array.toList_append, Array.toList_map]; exact ha)
    rw [run_callV ho hx hc.isFn, ha']) hc (by rw [hd]; exact h)
/-- clear of a part of a block that is known whole. -/
theorem GL_clear {T E g U off m c i : Nat} {z : Value} {L L' : List Value} (hw : Wn n ops f o) (hd : o.dst = none) (ho : o.op = .call { callee := .builtin .clear, args := #[x], argTypes := #[T] }) (hx : ev n f x = .slice (some ⟨g, off, none⟩) m c) (hT : P.underlying T = some (.slice E))
    (hz : (P.info? E).bind (·.zero) = some z) (hz1 : z.cells = #[z]) (h1 : z.oneCell' = true) (hp : Hp w0 S w H) (hi : H[i]? = some (Go.Mo.cells g U L)) (hm : 0 < m) (hfit : off + m ≤ L.length) (hL : splice L off (List.replicate m z) = L')
    (h : ∀ w', Hp w0 S w' (H.set i (Go.Mo.cells g U L')) → GL P n ops rest f w' K) : GL P n ops (o :: rest) f w K := by
  subst hL
  have hg := hp.get i hi
  have hzc : (Builtin.zeroCells z.cells m).toList = List.replicate m z := by
    rw [hz1]
    simp [Builtin.zeroCells]
    apply List.ext_getElem
    · simp
    · intro i h1 h2
      simp [Nat.mod_one]
  have hst := run_storeCells_at (P := P) g off U (List.replicate m z) 0 ⟨L⟩ w hg (by simpa using hfit) (fun u hu => by rw [List.eq_of_mem_replicate hu]; exact h1)
  simp only [Nat.add_zero] at hst
  obtain ⟨q, rfl⟩ : ∃ q, m = q + 1 := ⟨m - 1, by omega⟩
  have hk := Hp.setRow w (L' := splice L off (List.replicate (q + 1) z)) hg
  refine GL_run (w' := w.setRow g ⟨splice L off (List.replicate (q + 1) z)⟩) (v := .tuple #[]) hw ?_ (by rw [hd]; exact h _ (hp.turnAt i hi hk))
  simp [execOp, ho, resolve, invoke, builtin, Builtin.clear_, run_underlying hT, run_zero hz, hx, hzc, hst, Sem.run, splice, List.append_assoc]
/-- make of an empty slice with room. -/
theorem GL_makeC {T E bytes sz m : Nat} {z : Value} {k k' : IntKind} {l c : Int} (hw : Wn n ops f o) (hd : o.dst = some d) (ho : o.op = .makeSlice T x y) (hx : ev n f x = .int k l) (hy : ev n f y = .int k' c) (hT : P.underlying T = some (.slice E))
    (hi : (P.info? E).map (fun i => (i.zero, i.size, i.bytes)) = some (some z, sz, bytes)) (hl : l = 0) (hc : c = (m : Int)) (hb : bytes * m ≤ 281474976710656) (hm : m ≤ 140737488355328) (hp : Hp w0 S w H)
    (h : ∀ v w', Hp w0 S w' (.row E sz v 0 [] :: H) → GL P n ops rest (upd f d v) w' K) : GL P n ops (o :: rest) f w K := by
  subst hl hc
  obtain ⟨i, hi, hz0, hz1, hz2⟩ := info_parts hi
  obtain ⟨w', hr, hown, hg⟩ := run_make_own (P := P) w 0 T E i z sz hT hi hz0 hz1 k k' m (by rw [hz2]; exact hb) (by simp only [maxLen]; omega) (Nat.zero_le _)
  refine GL_new (w' := w') (v := .slice (some ⟨w.heap.size, 0, none⟩) 0 m) hw hd ?_ (h _ _ (hp.comp (H' := [.row E sz (.slice (some ⟨w.heap.size, 0, none⟩) 0 m) 0 []]) (Hp.ofGrown (v := .slice none 0 0) hg hown (.inr rfl))))
  simp [execOp, ho, hx, hy, hr, Sem.run]
/-- make of elements of several cells. -/
theorem madeCells_flat {α : Type} {e : α → List Value} {sz : Nat} (he : ∀ x, (e x).length = sz) (h0 : 0 < sz) (a : α) (m : Nat) : madeCells ⟨e a⟩ (m * sz) = ⟨(List.replicate m a).flatMap e⟩ := by
  apply Array.ext
  · simp [madeCells, he]
  · intro i h1 h2
    simp only [madeCells, Array.size_map, Array.size_range] at h1
    have h3 : i / sz < m := Nat.div_lt_of_lt_mul (by rwa [Nat.mul_comm] at h1)
    have h4 : i % sz < sz := Nat.mod_lt _ h0
    have h5 := flat_get he (List.replicate m a) (i / sz) (i % sz) a h4 (by simp [h3])
    rw [Nat.mul_comm, Nat.div_add_mod] at h5
    have h6 : ((List.replicate m a).flatMap e)[i]? = some (((List.replicate m a).flatMap e)[i]'(by simpa using h2)) := List.getElem?_eq_getElem _
    have h7 : (e a)[i % sz]? = some ((e a)[i % sz]'(by rw [he]; exact h4)) := List.getElem?_eq_getElem _
    rw [h6, h7] at h5
    injection h5 with h5
    have h8 : (⟨e a⟩ : Array Value).size = sz := he a
    simp [madeCells, h8, h5, he, h4]
theorem GL_makeN {α : Type} {e : α → List Value} {a : α} {T E bytes sz m : Nat} {z : Value} {k : IntKind} {l : Int} (hw : Wn n ops f o) (hd : o.dst = some d) (ho : o.op = .makeSlice T x x) (hx : ev n f x = .int k l) (hT : P.underlying T = some (.slice E))
    (hi : (P.info? E).map (fun i => (i.zero, i.size, i.bytes)) = some (some z, sz, bytes)) (he : ∀ x, (e x).length = sz) (h0 : 0 < sz) (hz : z.cells = ⟨e a⟩) (hl : l = (m : Int)) (hb : bytes * m ≤ 140737488355328) (hm : m ≤ 140737488355328) (hp : Hp w0 S w H)
    (h : ∀ g w', Hp w0 S w' (.row E sz (.slice (some ⟨g, 0, none⟩) m m) m ((List.replicate m a).flatMap e) :: H) → GL P n ops rest (upd f d (.slice (some ⟨g, 0, none⟩) m m)) w' K) : GL P n ops (o :: rest) f w K := by
  subst hl
  obtain ⟨i, hi, hz0, hz1, hz2⟩ := info_parts hi
  have hb' : (i.bytes : Int) * (m : Int) ≤ 281474976710656 := by
    have h1 : ((bytes * m : Nat) : Int) ≤ 281474976710656 := by omega
    rw [hz2]
    rwa [Int.natCast_mul] at h1
  have hr := run_make (P := P) w T E i z hT hi hz0 k k (m : Int) (m : Int) (by omega) (by omega) hb' (by omega)
  simp only [Int.toNat_natCast, hz1, hz, madeCells_flat he h0] at hr
  refine GL_new (w' := w.alloc (.cells ⟨(List.replicate m a).flatMap e⟩ E)) (v := .slice (some ⟨w.heap.size, 0, none⟩) m m) hw hd (by simp [execOp, ho, hx, hr, Sem.run]) (h w.heap.size _ ?_)
  refine hp.comp (H' := [.row E sz (.slice (some ⟨w.heap.size, 0, none⟩) m m) m ((List.replicate m a).flatMap e)]) ⟨Mod.alloc w _, ?_, by simp [Res.foot, Value.ownBlock], by simp⟩
  intro r hr
  simp only [List.mem_singleton] at hr
  subst hr
  have hfl : ((List.replicate m a).flatMap e).length = m * sz := by rw [flat_length he, List.length_replicate]
  exact ⟨hfl, .inr ⟨_, m, _, rfl, Nat.zero_le _, heap_alloc_new w _, Nat.le_refl _, by simp only [maxLen]; omega, hfl, by simp only [← hfl, List.take_length]⟩⟩
/-- A slice literal of one element. -/
theorem GL_lit1 {T E sz : Nat} {z v : Value} {L : List Value} (hw : Wn n ops f o) (hd : o.dst = some d) (ho : o.op = .buildSlice T 1 #[(0, x)]) (hx : ev n f x = v) (hv : v.cells = ⟨L⟩) (hT : P.underlying T = some (.slice E))
    (hs : (P.info? E).map (·.size) = some sz) (hz : (P.info? E).bind (·.zero) = some z) (hl : Nat.ble sz 16777216 = true) (hlen : L.length = sz) (hp : Hp w0 S w H)
    (h : ∀ g w', Hp w0 S w' (.row E sz (.slice (some ⟨g, 0, none⟩) 1 1) 1 L :: H) → GL P n ops rest (upd f d (.slice (some ⟨g, 0, none⟩) 1 1)) w' K) : GL P n ops (o :: rest) f w K := by
  refine GL_lit (L := L) hw hd ho hT hs hz (by rw [Nat.one_mul]; exact hl) ?_ (by rw [Nat.one_mul]; exact hlen) rfl hp h
  have e : (#[(0, x)].map fun (i, x) => (i, ev n f x)).toList = [((0 : Nat), v)] := by simp [hx]
  rw [e]
  generalize hA : ((Array.range (1 * sz)).map (z.cells[· % z.cells.size]!)) = A
  have hA' : A.toList.length = sz := by rw [← hA]; simp
  have : A = ⟨A.toList⟩ := rfl
  rw [this]
  exact fill_more 0 sz (by simp) hv hlen (by omega) (by simp [splice, hlen, hA']) (fill_done rfl)
/-- The place of an element that is itself a struct or an array, of an array's value. -/
theorem rd_indexG {T E sz : TypeId} {k : IntKind} {i : Int} {j len : Nat} {L L' : List Value} {dd : TypeDesc} (ho : o.op = .index T x y) (hx : ev n f x = .agg ⟨L⟩) (hy : ev n f y = .int k i) (hT : P.underlying T = some (.array len E)) (hE : P.underlying E = some dd) (hd : plainT dd = false)
    (hs : (P.info? E).map (·.size) = some sz) (hi : i = (j : Int)) (hj : j < len) (hu : (L.drop (j * sz)).take sz = L') : Rd P n f o w (.agg ⟨L'⟩) := by
  subst hi hu
  have h1 : (isAgg E).run P w = .ok true w := by rw [run_isAgg hE]; cases dd <;> simp [plainT] at hd <;> rfl
  have h2 : (part E ⟨L⟩ (j * sz)).run P w = .ok (.agg ⟨(L.drop (j * sz)).take sz⟩) w := by
    simp [part, h1, run_sizeOf hs, Sem.run, List.extract_eq_take_drop]
  simp [Rd, execOp, ho, hx, hy, Instr.index, asIntOf, run_underlying hT, run_sizeOf hs, hj, h2, Sem.run]
/-! ### Counts by text -/
def cntE : Nat → List (ByteArray × Int) → List MapEntry
  | _, [] => []
  | k, q :: l => { key := .string q.1, val := .int .i64 q.2, born := k } :: cntE (k + 1) l
def cntG (l : List (ByteArray × Int)) (s : ByteArray) : Int := match l with
  | [] => 0
  | q :: l => if q.1 = s then q.2 else cntG l s
def cntI (s : ByteArray) : List (ByteArray × Int) → List (ByteArray × Int)
  | [] => [(s, 1)]
  | q :: l => if q.1 = s then (q.1, q.2 + 1) :: l else q :: cntI s l
theorem cntG_I (s t : ByteArray) : ∀ l, cntG (cntI s l) t = if t = s then cntG l t + 1 else cntG l t
  | [] => by
    simp only [cntI, cntG]
    by_cases h : t = s
    · rw [if_pos h.symm, if_pos h]; rfl
    · rw [if_neg (fun e => h e.symm), if_neg h]
  | q :: l => by
    have ih := cntG_I s t l
    simp only [cntI]
    by_cases h : q.1 = s
    · rw [if_pos h]
      simp only [cntG]
      by_cases h2 : q.1 = t
      · rw [if_pos h2, if_pos (h2.symm.trans h)]; simp [h2]
      · rw [if_neg h2, if_neg (fun e => h2 (h.trans e.symm))]; simp [h2]
    · rw [if_neg h]
      simp only [cntG]
      by_cases h2 : q.1 = t
      · rw [if_pos h2, if_pos h2, if_neg (fun e => h (h2.trans e))]
      · rw [if_neg h2, if_neg h2, ih]
def CntAt (s : ByteArray) (l : List (ByteArray × Int)) (k : Nat) : Option (Option (Nat × Value)) → Prop
  | some none => cntE k (cntI s l) = cntE k l ++ [{ key := .string s, val := .int .i64 1, born := k + l.length }] ∧ cntG l s = 0 ∧ (cntI s l).length = l.length + 1
  | some (some (i, v)) => k ≤ i ∧ v = .int .i64 (cntG l s) ∧ (∃ e, (cntE k l)[i - k]? = some e ∧ e.key = .string s) ∧ (cntE k l).modify (i - k) (fun e => { e with key := .string s, val := .int .i64 (cntG l s + 1) }) = cntE k (cntI s l) ∧ (cntI s l).length = l.length
  | none => False
theorem cnt_at (s : ByteArray) : ∀ (l : List (ByteArray × Int)) (k : Nat), CntAt s l k (Instr.findNow .string (.string s) (cntE k l) k)
  | [], k => ⟨rfl, rfl, rfl⟩
  | q :: l, k => by
    have ih := cnt_at s l (k + 1)
    have e : (s == q.1) = decide (q.1 = s) := by
      rw [bytes_beq2, decide_eq_decide]
      exact eq_comm
    simp only [cntE, Instr.findNow, Instr.sameNow, e]
    by_cases h : q.1 = s
    · rw [decide_eq_true h]
      refine ⟨Nat.le_refl _, by simp only [cntG, if_pos h], ⟨_, by rw [Nat.sub_self]; rfl, by rw [h]⟩, ?_, by simp only [cntI, if_pos h, List.length_cons]⟩
      rw [Nat.sub_self]
      simp [cntI, cntE, cntG, h]
    · rw [decide_eq_false h]
      simp only []
      generalize Instr.findNow .string (.string s) (cntE (k + 1) l) (k + 1) = r at ih ⊢
      match r, ih with
      | some none, ih =>
        obtain ⟨h1, h2, h3⟩ := ih
        refine ⟨?_, by simp only [cntG, if_neg h, h2], by simp only [cntI, if_neg h, List.length_cons, h3]⟩
        simp only [cntI, if_neg h, cntE, h1, List.cons_append, List.length_cons]
        rw [show k + 1 + l.length = k + (l.length + 1) by omega]
      | some (some (i, v)), ih =>
        obtain ⟨h1, h2, ⟨e2, h3, h3'⟩, h4, h5⟩ := ih
        refine ⟨by omega, by simp only [cntG, if_neg h, h2], ⟨e2, ?_, h3'⟩, ?_, by simp only [cntI, if_neg h, List.length_cons, h5]⟩
        · rw [show i - k = (i - (k + 1)) + 1 by omega]
          simpa [cntE] using h3
        · rw [show i - k = (i - (k + 1)) + 1 by omega]
          simp only [cntI, if_neg h, cntE, cntG, List.modify_succ_cons, h4]
theorem rd_cntG {T Kt E : TypeId} {c g : Nat} {l : List (ByteArray × Int)} {s : ByteArray} (ho : o.op = .lookup T x y false) (hx : ev n f x = .map (some g)) (hy : ev n f y = .string s) (hT : P.underlying T = some (.map Kt E)) (hK : P.underlying Kt = some .string) (hz : (P.info? E).bind (·.zero) = some (.int .i64 0))
    (hg : (Res.blk g (.map ⟨cntE 0 l⟩ c)).at_ w) : Rd P n f o w (.int .i64 (cntG l s)) := by
  have hg' : w.heap[g]? = some (.map ⟨cntE 0 l⟩ c) := hg
  have h1 : ∀ b, (Instr.checkKey b 10000 Kt (.string s)).run P w = .ok () w := fun b => run_keyS b 9999 hK
  have hc := cnt_at s l 0
  generalize hr : Instr.findNow .string (.string s) (cntE 0 l) 0 = r at hc
  match r, hc with
  | some none, hc =>
    have h2 : (Instr.findKey Kt (.string s) (cntE 0 l)).run P w = .ok none w := by simp [Instr.findKey, run_underlying hK, hr, Sem.run]
    rw [hc.2.1]
    simp [Rd, execOp, ho, hx, hy, Instr.lookup, run_underlying hT, getObj, hg', h1, h2, run_zero hz, Sem.run]
  | some (some (i, v)), hc =>
    have h2 : (Instr.findKey Kt (.string s) (cntE 0 l)).run P w = .ok (some (i, v)) w := by simp [Instr.findKey, run_underlying hK, hr, Sem.run]
    rw [← hc.2.1]
    simp [Rd, execOp, ho, hx, hy, Instr.lookup, run_underlying hT, getObj, hg', h1, h2, Sem.run]
theorem GL_cntPut {T Kt E : TypeId} {i g : Nat} {l : List (ByteArray × Int)} {s : ByteArray} {v : Value} (hw : Wn n ops f o) (hd : o.dst = none) (ho : o.op = .mapUpdate T x y z) (hx : ev n f x = .map (some g)) (hy : ev n f y = .string s) (hv : ev n f z = v) (hT : P.underlying T = some (.map Kt E)) (hK : P.underlying Kt = some .string)
    (hp : Hp w0 S w H) (hi : H[i]? = some (.blk g (.map ⟨cntE 0 l⟩ l.length))) (hq : v = .int .i64 (cntG l s + 1))
    (h : ∀ w', Hp w0 S w' (H.set i (.blk g (.map ⟨cntE 0 (cntI s l)⟩ (cntI s l).length))) → GL P n ops rest f w' K) : GL P n ops (o :: rest) f w K := by
  subst hq
  have hg : w.heap[g]? = some (.map ⟨cntE 0 l⟩ l.length) := hp.get i hi
  have hlt : g < w.heap.size := (Array.getElem?_eq_some_iff.1 hg).1
  have h1 : (Instr.checkKey false 10000 Kt (.string s)).run P w = .ok () w := run_keyS false 9999 hK
  let ob : Obj := .map ⟨cntE 0 (cntI s l)⟩ (cntI s l).length
  have hk : Hp w [g] { w with heap := w.heap.setIfInBounds g ob } [.blk g ob] := by
    refine ⟨⟨rfl, rfl, rfl, by simp, fun k hk hn => ?_⟩, ?_, by simp [Res.foot], by simp⟩
    · simp only [List.mem_singleton] at hn
      show (w.heap.setIfInBounds g ob)[k]? = _
      rw [Array.getElem?_setIfInBounds_ne (fun e => hn e.symm)]
    · intro r hr
      simp only [List.mem_singleton] at hr
      subst hr
      show (w.heap.setIfInBounds g ob)[g]? = _
      rw [Array.getElem?_setIfInBounds_self_of_lt hlt]
  refine GL_do (w' := { w with heap := w.heap.setIfInBounds g ob }) hw hd ?_ (h _ (hp.turnAt i hi hk))
  have hc := cnt_at s l 0
  generalize hr : Instr.findNow .string (.string s) (cntE 0 l) 0 = r at hc
  match r, hc with
  | some none, hc =>
    obtain ⟨c1, c2, c3⟩ := hc
    have h2 : (Instr.findKey Kt (.string s) (cntE 0 l)).run P w = .ok none w := by simp [Instr.findKey, run_underlying hK, hr, Sem.run]
    rw [Nat.zero_add] at c1
    simp [execOp, ho, hx, hy, hv, Instr.mapUpdate, run_underlying hT, getObj, setObj, hg, h1, h2, Sem.run, ob, c1, c2, c3]
  | some (some (j, u)), hc =>
    obtain ⟨c1, c2, ⟨e, c3, c3'⟩, c4, c5⟩ := hc
    have h2 : (Instr.findKey Kt (.string s) (cntE 0 l)).run P w = .ok (some (j, u)) w := by simp [Instr.findKey, run_underlying hK, hr, Sem.run]
    rw [Nat.sub_zero] at c3 c4
    have h3 : (Instr.keyThatStays (.string s) (.string s)).run P w = .ok (.string s) w := by
      have : Instr.sameBits 10000 (.string s) (.string s) = true := (bytes_beq2 s s).trans (decide_eq_true rfl)
      unfold Instr.keyThatStays
      rw [if_pos this]
      rfl
    simp [execOp, ho, hx, hy, hv, Instr.mapUpdate, run_underlying hT, getObj, setObj, hg, h1, h2, Sem.run, ob, c3, c3', h3, c5, c4]
end clos
end Go.Mo
