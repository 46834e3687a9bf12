/- Function values that hold places, clear, make with room, counts in maps: the laws of their operations. -/
import Derived.Test.YtpagpmioopaciaaQClassS
import Derived.Lib.SliceRun
set_option linter.unusedVariables false
set_option linter.unusedSimpArgs false
namespace Go.Mo
open Go.RowKit Go.Lib
section clos
variable {P : Program} {n : Nat} {ops : Array Oper} {f : Fm} {w w0 : World} {S : List Nat} {H : List Res} {K : Fm → World → Prop} {o : Oper} {rest : List Oper} {d : Nat} {x y z : Operand}
theorem rd_closure {k : Nat} {xs : Array Operand} {caps : Array Value} (ho : o.op = .makeFunc (.func k) #[] xs) (hx : xs.toList.map (ev n f) = caps.toList) : Rd P n f o w (.func (.func k) #[] caps) := by
  have hx' : xs.map (ev n f) = caps := Array.toList_inj.1 (by rw [Array.toList_map]; exact hx)
  simp [Rd, execOp, ho, hx', Instr.makeFunc, Sem.run]
/-- make of elements of several cells. -/
theorem madeCells_flat {α : Type} {e : α → List Value} {sz : Nat} (he : ∀ x, (e x).length = sz) (h0 : 0 < sz) (a : α) (m : Nat) : madeCells ⟨e a⟩ (m * sz) = ⟨(List.replicate m a).flatMap e⟩ := by
  apply Array.ext
  · simp [madeCells, he]
  · intro i h1 h2
    simp only [madeCells, Array.size_map, Array.size_range] at h1
    have h3 : i / sz < m := Nat.div_lt_of_lt_mul (by rwa [Nat.mul_comm] at h1)
    have h4 : i % sz < sz := Nat.mod_lt _ h0
    have h5 := flat_get he (List.replicate m a) (i / sz) (i % sz) a h4 (by simp [h3])
    rw [Nat.mul_comm, Nat.div_add_mod] at h5
    have h6 : ((List.replicate m a).flatMap e)[i]? = some (((List.replicate m a).flatMap e)[i]'(by simpa using h2)) := List.getElem?_eq_getElem _
    have h7 : (e a)[i % sz]? = some ((e a)[i % sz]'(by rw [he]; exact h4)) := List.getElem?_eq_getElem _
    rw [h6, h7] at h5
    injection h5 with h5
    have h8 : (⟨e a⟩ : Array Value).size = sz := he a
    simp [madeCells, h8, h5, he, h4]
theorem GL_makeN {α : Type} {e : α → List Value} {a : α} {T E bytes sz m : Nat} {z : Value} {k : IntKind} {l : Int} (hw : Wn n ops f o) (hd : o.dst = some d) (ho : o.op = .makeSlice T x x) (hx : ev n f x = .int k l) (hT : P.underlying T = some (.slice E))
    (hi : (P.info? E).map (fun i => (i.zero, i.size, i.bytes)) = some (some z, sz, bytes)) (he : ∀ x, (e x).length = sz) (h0 : 0 < sz) (hz : z.cells = ⟨e a⟩) (hl : l = (m : Int)) (hb : bytes * m ≤ 140737488355328) (hm : m ≤ 140737488355328) (hp : Hp w0 S w H)
    (h : ∀ g w', Hp w0 S w' (.row E sz (.slice (some ⟨g, 0, none⟩) m m) m ((List.replicate m a).flatMap e) :: H) → GL P n ops rest (upd f d (.slice (some ⟨g, 0, none⟩) m m)) w' K) : GL P n ops (o :: rest) f w K := by
  subst hl
  obtain ⟨i, hi, hz0, hz1, hz2⟩ := info_parts hi
  have hb' : (i.bytes : Int) * (m : Int) ≤ 281474976710656 := by
    have h1 : ((bytes * m : Nat) : Int) ≤ 281474976710656 := by omega
    rw [hz2]
    rwa [Int.natCast_mul] at h1
  have hr := run_make (P := P) w T E i z hT hi hz0 k k (m : Int) (m : Int) (by omega) (by omega) hb' (by omega)
  simp only [Int.toNat_natCast, hz1, hz, madeCells_flat he h0] at hr
  refine GL_new (w' := w.alloc (.cells ⟨(List.replicate m a).flatMap e⟩ E)) (v := .slice (some ⟨w.heap.size, 0, none⟩) m m) hw hd (by simp [execOp, ho, hx, hr, Sem.run]) (h w.heap.size _ ?_)
  refine hp.comp (H' := [.row E sz (.slice (some ⟨w.heap.size, 0, none⟩) m m) m ((List.replicate m a).flatMap e)]) ⟨Mod.alloc w _, ?_, by simp [Res.foot, Value.ownBlock], by simp⟩
  intro r hr
  simp only [List.mem_singleton] at hr
  subst hr
  have hfl : ((List.replicate m a).flatMap e).length = m * sz := by rw [flat_length he, List.length_replicate]
  exact ⟨hfl, .inr ⟨_, m, _, rfl, Nat.zero_le _, heap_alloc_new w _, Nat.le_refl _, by simp only [maxLen]; omega, hfl, by simp only [← hfl, List.take_length]⟩⟩
/-- A slice literal of one element. -/
theorem GL_lit1 {T E sz : Nat} {z v : Value} {L : List Value} (hw : Wn n ops f o) (hd : o.dst = some d) (ho : o.op = .buildSlice T 1 #[(0, x)]) (hx : ev n f x = v) (hv : v.cells = ⟨L⟩) (hT : P.underlying T = some (.slice E))
    (hs : (P.info? E).map (·.size) = some sz) (hz : (P.info? E).bind (·.zero) = some z) (hl : Nat.ble sz 16777216 = true) (hlen : L.length = sz) (hp : Hp w0 S w H)
    (h : ∀ g w', Hp w0 S w' (.row E sz (.slice (some ⟨g, 0, none⟩) 1 1) 1 L :: H) → GL P n ops rest (upd f d (.slice (some ⟨g, 0, none⟩) 1 1)) w' K) : GL P n ops (o :: rest) f w K := by
  refine GL_lit (L := L) hw hd ho hT hs hz (by rw [Nat.one_mul]; exact hl) ?_ (by rw [Nat.one_mul]; exact hlen) rfl hp h
  have e : (#[(0, x)].map fun (i, x) => (i, ev n f x)).toList = [((0 : Nat), v)] := by simp [hx]
  rw [e]
  generalize hA : ((Array.range (1 * sz)).map (z.cells[· % z.cells.size]!)) = A
  have hA' : A.toList.length = sz := by rw [← hA]; simp
  have : A = ⟨A.toList⟩ := rfl
  rw [this]
  exact fill_more 0 sz (by simp) hv hlen (by omega) (by simp [splice, hlen, hA']) (fill_done rfl)
/-- The place of an element that is itself a struct or an array, of an array's value. -/
theorem rd_indexG {T E sz : TypeId} {k : IntKind} {i : Int} {j len : Nat} {L L' : List Value} {dd : TypeDesc} (ho : o.op = .index T x y) (hx : ev n f x = .agg ⟨L⟩) (hy : ev n f y = .int k i) (hT : P.underlying T = some (.array len E)) (hE : P.underlying E = some dd) (hd : plainT dd = false)
    (hs : (P.info? E).map (·.size) = some sz) (hi : i = (j : Int)) (hj : j < len) (hu : (L.drop (j * sz)).take sz = L') : Rd P n f o w (.agg ⟨L'⟩) := by
  subst hi hu
  have h1 : (isAgg E).run P w = .ok true w := by rw [run_isAgg hE]; cases dd <;> simp [plainT] at hd <;> rfl
  have h2 : (part E ⟨L⟩ (j * sz)).run P w = .ok (.agg ⟨(L.drop (j * sz)).take sz⟩) w := by
    simp [part, h1, run_sizeOf hs, Sem.run, List.extract_eq_take_drop]
  simp [Rd, execOp, ho, hx, hy, Instr.index, asIntOf, run_underlying hT, run_sizeOf hs, hj, h2, Sem.run]
end clos
end Go.Mo
