/- Classes: maps of names, plain laws. -/
import Derived.Test.YtpagpmioopaciaaGreatPHeapS
import Derived.Laws.StructEq
import Derived.Lib.SliceRun
set_option linter.unusedVariables false
set_option linter.unusedSimpArgs false
namespace Go.Mo
open Go.RowKit Go.Lib
section maps
variable {P : Program} {n : Nat} {ops : Array Oper} {f : Fm} {w w0 : World} {S : List Nat} {H : List Res} {K : KP} {o : Oper} {rest : List Oper} {d : Nat} {x y z : Operand}
end maps
structure Cls where
  nm : ByteArray
  pd : Int
  ev : Bool
  pr : Bool
instance : Inhabited Cls := ⟨⟨⟨#[]⟩, 0, false, false⟩⟩
def clAt (l : List Cls) (i : Nat) : Cls := l.getD i default
theorem clAt_some {l : List Cls} {i : Nat} (hi : i < l.length) : l[i]? = some (clAt l i) := by rw [clAt, List.getD_eq_getElem?_getD, List.getElem?_eq_getElem hi]; rfl
theorem run_part_plain {P : Program} {w : World} {t off : Nat} {d : TypeDesc} {cs : Array Value} {v : Value} (hu : P.underlying t = some d) (hd : plainT d = true) (hv : cs[off]? = some v) : (part t cs off).run P w = .ok v w := by
  cases d <;> simp [plainT] at hd <;> simp [part, isAgg, run_underlying hu, hv, Sem.run]
theorem bytes_beq (a b : ByteArray) : (a.toList == b.toList) = decide (a = b) := by
  exact toList_beq a b
def nmB (b : UInt8) : Bool := decide (97 ≤ b.toNat ∧ b.toNat ≤ 122 ∨ 48 ≤ b.toNat ∧ b.toNat ≤ 57 ∨ b.toNat = 45)
def nameB (s : ByteArray) : Bool := decide (1 ≤ s.size ∧ s.size ≤ 15) && s.data.toList.all nmB
def nameC (s : ByteArray) : Int := if nameB s then 0 else 10
theorem nameC_size {s : ByteArray} (h : ¬ (1 ≤ s.size ∧ s.size ≤ 15)) : nameC s = 10 := by rw [nameC, nameB, decide_eq_false h]; rfl
theorem nameC_bad {s : ByteArray} {i : Nat} (hi : i < s.size) (h : nmB s[i] = false) : nameC s = 10 := by
  have e : s.data.toList.all nmB = false := List.all_eq_false.2 ⟨s[i], Array.mem_toList_iff.2 (Array.getElem_mem (xs := s.data) hi), by simp [h]⟩
  rw [nameC, nameB, e, Bool.and_false]; rfl
theorem nameC_good {s : ByteArray} (h : 1 ≤ s.size ∧ s.size ≤ 15) (ha : ∀ j, (hj : j < s.size) → nmB s[j] = true) : nameC s = 0 := by
  have e : s.data.toList.all nmB = true := List.all_eq_true.2 fun b hb => by
    obtain ⟨j, hj⟩ := List.getElem?_of_mem hb
    obtain ⟨hj1, hj2⟩ := List.getElem?_eq_some_iff.1 hj
    have := ha j (by simpa using hj1)
    rw [← hj2]
    exact this
  rw [nameC, nameB, e, decide_eq_true h]; rfl
theorem nameC_zero {s : ByteArray} : nameC s = 0 ↔ nameB s = true := by unfold nameC; cases nameB s <;> simp
def perB (p : Int) : Bool := decide (0 ≤ p ∧ p ≤ 1099511627776)
def clsC (c : Cls) : Int := if nameC c.nm = 0 then (if perB c.pd then 0 else 2) else nameC c.nm
def findI (l : List Cls) (s : ByteArray) : Option Nat := l.findIdx? fun c => decide (c.nm = s)
theorem findI_none {l : List Cls} {s : ByteArray} (hb : ∀ j, j < l.length → ¬ (clAt l j).nm = s) : findI l s = none := by
  rw [findI, List.findIdx?_eq_none_iff]
  intro c hc
  obtain ⟨j, hj⟩ := List.getElem?_of_mem hc
  have hjl := (List.getElem?_eq_some_iff.1 hj).1
  have := clAt_some hjl
  rw [hj] at this
  have e := Option.some.inj this
  rw [e]
  simpa using hb j hjl
def claC (l : List Cls) (c : Cls) : Int := if clsC c = 0 then (if (findI l c.nm).isSome then 9 else if 8 ≤ l.length then 7 else 0) else clsC c
def claL (l : List Cls) (c : Cls) : List Cls := if claC l c = 0 then l ++ [c] else l
theorem cla_no {l : List Cls} {c : Cls} (h : ¬ clsC c = 0) : claC l c = clsC c ∧ claL l c = l := by simp [claC, claL, h]
theorem cla_twice {l : List Cls} {c : Cls} {i : Nat} (h : clsC c = 0) (hf : findI l c.nm = some i) : claC l c = 9 ∧ claL l c = l := by simp [claC, claL, h, hf]
theorem cla_full {l : List Cls} {c : Cls} (h : clsC c = 0) (hf : findI l c.nm = none) (h8 : 8 ≤ l.length) : claC l c = 7 ∧ claL l c = l := by simp [claC, claL, h, hf, h8]
theorem cla_yes {l : List Cls} {c : Cls} (h : clsC c = 0) (hf : findI l c.nm = none) (h8 : ¬ 8 ≤ l.length) : claC l c = 0 ∧ claL l c = l ++ [c] := by simp [claC, claL, h, hf, h8]
/-- What a list of classes is that came to be by adding. -/
def ClsOk (l : List Cls) : Prop := l.length ≤ 8 ∧ (∀ i, i < l.length → clsC (clAt l i) = 0) ∧ ∀ i j, i < j → j < l.length → ¬ (clAt l i).nm = (clAt l j).nm
theorem ClsOk.nil : ClsOk [] := ⟨by decide, fun i h => (by cases h), fun i j _ h => (by cases h)⟩
theorem clAt_left {l m : List Cls} {i : Nat} (h : i < l.length) : clAt (l ++ m) i = clAt l i := by rw [clAt, clAt, List.getD_eq_getElem?_getD, List.getD_eq_getElem?_getD, List.getElem?_append_left h]
theorem clAt_last (l : List Cls) (c : Cls) : clAt (l ++ [c]) l.length = c := by rw [clAt, List.getD_eq_getElem?_getD]; simp
theorem clAt_take {l : List Cls} {i k : Nat} (h : i < k) : clAt (l.take k) i = clAt l i := by rw [clAt, clAt, List.getD_eq_getElem?_getD, List.getD_eq_getElem?_getD, List.getElem?_take, if_pos h]
theorem ClsOk.add {l : List Cls} (h : ClsOk l) (c : Cls) : ClsOk (claL l c) := by
  unfold claL
  split
  · rename_i h0
    have hc : clsC c = 0 := by
      by_cases q : clsC c = 0
      · exact q
      · exact absurd ((cla_no (l := l) q).1.symm.trans h0) q
    have hf : findI l c.nm = none := by
      cases q : findI l c.nm with
      | none => rfl
      | some i => rw [(cla_twice hc q).1] at h0; cases h0
    have h8 : ¬ 8 ≤ l.length := fun q => by rw [(cla_full hc hf q).1] at h0; cases h0
    refine ⟨by rw [List.length_append]; simp; omega, fun i hi => ?_, fun i j hij hj => ?_⟩
    · rw [List.length_append, List.length_singleton] at hi
      by_cases e : i < l.length
      · rw [clAt_left e]; exact h.2.1 i e
      · obtain rfl : i = l.length := by omega
        rw [clAt_last]; exact hc
    · rw [List.length_append, List.length_singleton] at hj
      rw [clAt_left (by omega)]
      by_cases e : j < l.length
      · rw [clAt_left e]; exact h.2.2 i j hij e
      · obtain rfl : j = l.length := by omega
        rw [clAt_last]
        intro q
        rw [findI, List.findIdx?_eq_none_iff] at hf
        have := hf _ (List.mem_of_getElem? (clAt_some (show i < l.length by omega)))
        simp [q] at this
  · exact h
theorem ClsOk.step {l : List Cls} (h : ClsOk l) {i : Nat} (hi : i < l.length) : claC (l.take i) (clAt l i) = 0 ∧ claL (l.take i) (clAt l i) = l.take (i + 1) := by
  have hl : (l.take i).length = i := by rw [List.length_take]; omega
  have hf : findI (l.take i) (clAt l i).nm = none := findI_none fun j hj => by
    rw [hl] at hj
    rw [clAt_take hj]
    exact h.2.2 j i hj hi
  have h1 := cla_yes (h.2.1 i hi) hf (by rw [hl]; have := h.1; omega)
  exact ⟨h1.1, by rw [h1.2, take_one (clAt_some hi)]⟩
theorem bytes_empty {s : ByteArray} (h : s.size = 0) : s = ⟨#[]⟩ := by
  cases s with
  | mk d => congr 1; exact Array.eq_empty_of_size_eq_zero h
theorem nameC_le {s : ByteArray} (h : nameC s = 0) : 1 ≤ s.size ∧ s.size ≤ 15 := by
  have := nameC_zero.1 h
  simp only [nameB, Bool.and_eq_true, decide_eq_true_eq] at this
  exact this.1
theorem name_pad {s : ByteArray} (h : s.size ≤ 15) : padOk s.data.toList.length 16 = true := by
  have e : s.data.toList.length = s.size := rfl
  rw [e]
  simp only [padOk, decide_eq_true_eq]
  omega
theorem ClsOk.all {l : List Cls} (h : ClsOk l) : ∀ c ∈ l, clsC c = 0 := fun c hc => by
  obtain ⟨j, hj⟩ := List.getElem?_of_mem hc
  have hjl := (List.getElem?_eq_some_iff.1 hj).1
  have := clAt_some hjl
  rw [hj] at this
  rw [Option.some.inj this]
  exact h.2.1 j hjl
theorem unpadL_le {b : List UInt8} : (unpadL b).length ≤ b.length := by
  cases b with
  | nil => exact Nat.le_refl _
  | cons c r =>
    simp only [unpadL]
    split
    · rw [List.length_take, List.length_cons]; omega
    · exact Nat.zero_le _
/-- Nothing is shortened. -/
def Grow (L N : List Cls) : Prop := L.length ≤ N.length ∧ ∀ j, j < L.length → (clAt N j).nm = (clAt L j).nm ∧ (clAt N j).ev = (clAt L j).ev ∧ (clAt N j).pr = (clAt L j).pr ∧ (clAt L j).pd ≤ (clAt N j).pd
theorem Grow.refl (L : List Cls) : Grow L L := ⟨Nat.le_refl _, fun j _ => ⟨rfl, rfl, rfl, Int.le_refl _⟩⟩
theorem Grow.add {L N : List Cls} (h : Grow L N) (c : Cls) : Grow L (claL N c) := by
  unfold claL
  split
  · refine ⟨by rw [List.length_append]; have := h.1; omega, fun j hj => ?_⟩
    rw [clAt_left (by have := h.1; omega)]
    exact h.2 j hj
  · exact h
end Go.Mo
set_option linter.unusedVariables false
set_option linter.unusedSimpArgs false
namespace Go.Mo
open Go.RowKit Go.Lib
section clos
variable {P : Program} {n : Nat} {ops : Array Oper} {f : Fm} {w w0 : World} {S : List Nat} {H : List Res} {K : KP} {o : Oper} {rest : List Oper} {d : Nat} {x y z : Operand}
theorem rd_closure {k : Nat} {xs : Array Operand} {caps : Array Value} (ho : o.op = .makeFunc (.func k) #[] xs) (hx : xs.toList.map (ev n f) = caps.toList) : Rd P n f o w (.func (.func k) #[] caps) := by
  have hx' : xs.map (ev n f) = caps := Array.toList_inj.1 (by rw [Array.toList_map]; exact hx)
  simp [Rd, execOp, ho, hx', Instr.makeFunc, Sem.run]
theorem run_callV {k : Nat} {caps : Array Value} {xs : Array Operand} {ts : Array TypeId} (ho : o.op = .call { callee := .value x, args := xs, argTypes := ts }) (hx : ev n f x = .func (.func k) #[] caps) (hf : IsFn P k) :
    (execOp (ev n f) o).run P w = .ok (.enter k (xs.map (ev n f) ++ caps)) w := by
  obtain ⟨fn, h1, h2, h3⟩ := hf
  have h2' : ¬ fn.name = "runtime.NumGoroutine" := by simpa using h2
  have h3' : ¬ fn.body = none := by intro e; rw [e] at h3; cases h3
  simp [execOp, ho, resolve, hx, Deferred.ofValue, invoke, callFunc, program, Sem.run, h1, h2', h3']
/-- A call of a function value. -/
theorem GL_callV {k : Nat} {caps : Array Value} {xs : Array Operand} {ts : Array TypeId} {args : Array Value} {post : Value → World → Prop} (hw : Wn n ops f o) (hd : o.dst = some d)
    (ho : o.op = .call { callee := .value x, args := xs, argTypes := ts }) (hx : ev n f x = .func (.func k) #[] caps)
    (hc : Does P k args w post) (ha : xs.toList.map (ev n f) ++ caps.toList = args.toList) (h : ∀ v w', post v w' → GL P n ops rest (upd f d v) w' K) : GL P n ops (o :: rest) f w K :=
  GL_enter hw (by
    have ha' : xs.map (ev n f) ++ caps = args := Array.toList_inj.1 (by rw [Array.toList_append, Array.toList_map]; exact ha)
    rw [run_callV ho hx hc.isFn, ha']) hc (by rw [hd]; exact h)
/-- A slice literal of one element. -/
theorem GL_lit1 {T E sz : Nat} {z v : Value} {L : List Value} (hw : Wn n ops f o) (hd : o.dst = some d) (ho : o.op = .buildSlice T 1 #[(0, x)]) (hx : ev n f x = v) (hv : v.cells = ⟨L⟩) (hT : P.underlying T = some (.slice E))
    (hs : (P.info? E).map (·.size) = some sz) (hz : (P.info? E).bind (·.zero) = some z) (hl : Nat.ble sz 16777216 = true) (hlen : L.length = sz) (hp : Hp w0 S w H)
    (h : ∀ g w', Hp w0 S w' (.row E sz (.slice (some ⟨g, 0, none⟩) 1 1) 1 L :: H) → GL P n ops rest (upd f d (.slice (some ⟨g, 0, none⟩) 1 1)) w' K) : GL P n ops (o :: rest) f w K := by
  refine GL_lit (L := L) hw hd ho hT hs hz (by rw [Nat.one_mul]; exact hl) ?_ (by rw [Nat.one_mul]; exact hlen) rfl hp h
  have e : (#[(0, x)].map fun (i, x) => (i, ev n f x)).toList = [((0 : Nat), v)] := by simp [hx]
  rw [e]
  generalize hA : ((Array.range (1 * sz)).map (z.cells[· % z.cells.size]!)) = A
  have hA' : A.toList.length = sz := by rw [← hA]; simp
  have : A = ⟨A.toList⟩ := rfl
  rw [this]
  exact fill_more 0 sz (by simp) hv hlen (by omega) (by simp [splice, hlen, hA']) (fill_done rfl)
end clos
end Go.Mo
