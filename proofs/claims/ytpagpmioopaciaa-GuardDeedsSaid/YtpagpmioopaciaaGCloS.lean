/- Function values that hold places, clear, make with room, counts in maps: the laws of their operations. -/
import Derived.Test.YtpagpmioopaciaaGClassS
import Derived.Lib.SliceRun
set_option linter.unusedVariables false
set_option linter.unusedSimpArgs false
namespace Go.Mo
open Go.RowKit Go.Lib
section clos
variable {P : Program} {n : Nat} {ops : Array Oper} {f : Fm} {w w0 : World} {S : List Nat} {H : List Res} {K : Fm → World → Prop} {o : Oper} {rest : List Oper} {d : Nat} {x y z : Operand}
theorem rd_closure {k : Nat} {xs : Array Operand} {caps : Array Value} (ho : o.op = .makeFunc (.func k) #[] xs) (hx : xs.toList.map (ev n f) = caps.toList) : Rd P n f o w (.func (.func k) #[] caps) := by
  have hx' : xs.map (ev n f) = caps := Array.toList_inj.1 (by rw [Array.toList_map]; exact hx)
  simp [Rd, execOp, ho, hx', Instr.makeFunc, Sem.run]
theorem run_callV {k : Nat} {caps : Array Value} {xs : Array Operand} {ts : Array TypeId} (ho : o.op = .call { callee := .value x, args := xs, argTypes := ts }) (hx : ev n f x = .func (.func k) #[] caps) (hf : IsFn P k) :
    (execOp (ev n f) o).run P w = .ok (.enter k (xs.map (ev n f) ++ caps)) w := by
  obtain ⟨fn, h1, h2, h3⟩ := hf
  have h2' : ¬ fn.name = "runtime.NumGoroutine" := by simpa using h2
  have h3' : ¬ fn.body = none := by intro e; rw [e] at h3; cases h3
  simp [execOp, ho, resolve, hx, Deferred.ofValue, invoke, callFunc, program, Sem.run, h1, h2', h3']
/-- A call of a function value. -/
theorem GL_callV {k : Nat} {caps : Array Value} {xs : Array Operand} {ts : Array TypeId} {args : Array Value} {post : Value → World → Prop} (hw : Wn n ops f o) (hd : o.dst = some d)
    (ho : o.op = .call { callee := .value x, args := xs, argTypes := ts }) (hx : ev n f x = .func (.func k) #[] caps)
    (hc : Does P k args w post) (ha : xs.toList.map (ev n f) ++ caps.toList = args.toList) (h : ∀ v w', post v w' → GL P n ops rest (upd f d v) w' K) : GL P n ops (o :: rest) f w K :=
  GL_enter hw (by
    have ha' : xs.map (ev n f) ++ caps = args := Array.toList_inj.1 (by rw [Array.toList_append, Array.toList_map]; exact ha)
    rw [run_callV ho hx hc.isFn, ha']) hc (by rw [hd]; exact h)
/-- A slice literal of one element. -/
theorem GL_lit1 {T E sz : Nat} {z v : Value} {L : List Value} (hw : Wn n ops f o) (hd : o.dst = some d) (ho : o.op = .buildSlice T 1 #[(0, x)]) (hx : ev n f x = v) (hv : v.cells = ⟨L⟩) (hT : P.underlying T = some (.slice E))
    (hs : (P.info? E).map (·.size) = some sz) (hz : (P.info? E).bind (·.zero) = some z) (hl : Nat.ble sz 16777216 = true) (hlen : L.length = sz) (hp : Hp w0 S w H)
    (h : ∀ g w', Hp w0 S w' (.row E sz (.slice (some ⟨g, 0, none⟩) 1 1) 1 L :: H) → GL P n ops rest (upd f d (.slice (some ⟨g, 0, none⟩) 1 1)) w' K) : GL P n ops (o :: rest) f w K := by
  refine GL_lit (L := L) hw hd ho hT hs hz (by rw [Nat.one_mul]; exact hl) ?_ (by rw [Nat.one_mul]; exact hlen) rfl hp h
  have e : (#[(0, x)].map fun (i, x) => (i, ev n f x)).toList = [((0 : Nat), v)] := by simp [hx]
  rw [e]
  generalize hA : ((Array.range (1 * sz)).map (z.cells[· % z.cells.size]!)) = A
  have hA' : A.toList.length = sz := by rw [← hA]; simp
  have : A = ⟨A.toList⟩ := rfl
  rw [this]
  exact fill_more 0 sz (by simp) hv hlen (by omega) (by simp [splice, hlen, hA']) (fill_done rfl)
end clos
end Go.Mo
