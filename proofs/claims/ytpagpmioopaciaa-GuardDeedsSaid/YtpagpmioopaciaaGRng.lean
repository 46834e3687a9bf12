/- A loop over a map: the iterator's block, its steps. Nothing of the program stands here. -/
import Derived.Test.YtpagpmioopaciaaGActs
import Derived.Maps.RangeRun
set_option linter.unusedVariables false
set_option linter.unusedSimpArgs false
namespace Go.Mo
open Go.RowKit
open Go.ChangeMaps (setBlock)
variable {P : Program} {n : Nat} {ops : Array Oper} {f : Fm} {w w0 : World} {S : List Nat} {H : List Res} {K : Fm → World → Prop} {o : Oper} {rest : List Oper} {d : Nat} {x y z : Operand}
theorem Hp.setIter {g r s c0 c1 : Nat} {seen seen' : Array Nat} {m : Option Nat} (h : w.heap[r]? = some (.mapIter m s seen c0)) (w1 : World) (h1 : w1 = w ∨ w1 = w.drew) :
    Hp w [r] (setBlock w1 r (.mapIter m s seen' c1)) [.blk r (.mapIter m s seen' c1)] := by
  have hlt : r < w.heap.size := (Array.getElem?_eq_some_iff.1 h).1
  have hh : w1.heap = w.heap := by rcases h1 with rfl | rfl <;> rfl
  refine ⟨⟨?_, ?_, ?_, ?_, fun k hk hn => ?_⟩, ?_, by simp [Res.foot], by simp⟩
  · rcases h1 with rfl | rfl <;> rfl
  · rcases h1 with rfl | rfl <;> rfl
  · rcases h1 with rfl | rfl <;> rfl
  · simp [setBlock, hh]
  · simp only [List.mem_singleton] at hn
    show (w1.heap.setIfInBounds r _)[k]? = _
    rw [hh, Array.getElem?_setIfInBounds_ne (fun e => hn e.symm)]
  · intro q hq
    simp only [List.mem_singleton] at hq
    subst hq
    show (w1.heap.setIfInBounds r _)[r]? = _
    rw [hh, Array.getElem?_setIfInBounds_self_of_lt hlt]
theorem rd_entry {g r s c : Nat} {seen : Array Nat} {es : Array MapEntry} {e : MapEntry} (ho : o.op = .entry x) (hx : ev n f x = .pointer (some ⟨r, 0, none⟩))
    (hr : (Res.blk r (.mapIter (some g) s (seen.push e.born) c)).at_ w) (hb : (Res.blk g (.map es c)).at_ w) (he : e ∈ es.toList) (hn : (es.toList.map (·.born)).Nodup) : Rd P n f o w (.tuple #[e.key, e.val]) := by
  have h := run_entry_at (P := P) w r g s seen es c e hr hb he hn
  simp [Rd, execOp, ho, hx, h, Sem.run]
end Go.Mo
