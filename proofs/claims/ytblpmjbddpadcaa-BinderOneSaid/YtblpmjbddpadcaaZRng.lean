/- A loop over a map: the iterator's block, its steps. Nothing of the program stands here. -/
import Derived.Test.YtblpmjbddpadcaaZActs
import Derived.Maps.RangeRun
set_option linter.unusedVariables false
set_option linter.unusedSimpArgs false
namespace Go.Mo
open Go.RowKit
open Go.ChangeMaps (setBlock)
variable {P : Program} {n : Nat} {ops : Array Oper} {f : Fm} {w w0 : World} {S : List Nat} {H : List Res} {K : Fm → World → Prop} {o : Oper} {rest : List Oper} {d : Nat} {x y z : Operand}
theorem GL_range {T Kt E : TypeId} {i g : Nat} {es : Array MapEntry} {c : Nat} (hw : Wn n ops f o) (hd : o.dst = some d) (ho : o.op = .range T x) (hx : ev n f x = .map (some g)) (hT : P.underlying T = some (.map Kt E)) (hp : Hp w0 S w H) (hi : H[i]? = some (.blk g (.map es c)))
    (h : ∀ r w', Hp w0 S w' (.blk r (.mapIter (some g) c #[] c) :: H) → GL P n ops rest (upd f d (.pointer (some ⟨r, 0, none⟩))) w' K) : GL P n ops (o :: rest) f w K := by
  have hg : w.heap[g]? = some (.map es c) := hp.get i hi
  have hr := run_range_map (P := P) w T Kt E g es c hT hg
  refine GL_new (v := .pointer (some ⟨w.heap.size, 0, none⟩)) hw hd ?_ (h _ _ (hp.comp (Hp.newBlk w _)))
  simp [execOp, ho, hx, hr, Sem.run]
theorem Hp.setIter {g r s c0 c1 : Nat} {seen seen' : Array Nat} {m : Option Nat} (h : w.heap[r]? = some (.mapIter m s seen c0)) (w1 : World) (h1 : w1 = w ∨ w1 = w.drew) :
    Hp w [r] (setBlock w1 r (.mapIter m s seen' c1)) [.blk r (.mapIter m s seen' c1)] := by
  have hlt : r < w.heap.size := (Array.getElem?_eq_some_iff.1 h).1
  have hh : w1.heap = w.heap := by rcases h1 with rfl | rfl <;> rfl
  refine ⟨⟨?_, ?_, ?_, ?_, fun k hk hn => ?_⟩, ?_, by simp [Res.foot], by simp⟩
  · rcases h1 with rfl | rfl <;> rfl
  · rcases h1 with rfl | rfl <;> rfl
  · rcases h1 with rfl | rfl <;> rfl
  · simp [setBlock, hh]
  · simp only [List.mem_singleton] at hn
    show (w1.heap.setIfInBounds r _)[k]? = _
    rw [hh, Array.getElem?_setIfInBounds_ne (fun e => hn e.symm)]
  · intro q hq
    simp only [List.mem_singleton] at hq
    subst hq
    show (w1.heap.setIfInBounds r _)[r]? = _
    rw [hh, Array.getElem?_setIfInBounds_self_of_lt hlt]
theorem GL_next {i j g r s c0 c : Nat} {seen : Array Nat} {es : Array MapEntry} (hw : Wn n ops f o) (hd : o.dst = some d) (ho : o.op = .next x false) (hx : ev n f x = .pointer (some ⟨r, 0, none⟩))
    (hp : Hp w0 S w H) (hi : H[i]? = some (.blk r (.mapIter (some g) s seen c0))) (hj : H[j]? = some (.blk g (.map es c))) (hold : ∀ e ∈ es.toList, e.born < s) (hs : s ≤ c0)
    (h1 : (leftOf es seen).size = 0 → GL P n ops rest (upd f d (.tuple #[.bool false])) w K)
    (h2 : ∀ e w', e ∈ (leftOf es seen).toList → Hp w0 S w' (H.set i (.blk r (.mapIter (some g) s (seen.push e.born) c))) → GL P n ops rest (upd f d (.tuple #[.bool true, e.key, e.val])) w' K) : GL P n ops (o :: rest) f w K := by
  have hr : w.heap[r]? = some (.mapIter (some g) s seen c0) := hp.get i hi
  have hb : w.heap[g]? = some (.map es c) := hp.get j hj
  rcases run_next_at (P := P) w o.type r g s c0 seen es c hr hb hold hs with ⟨h0, hrun⟩ | ⟨e, he, w1, hal, hrun⟩
  · exact GL_new hw hd (by simp [execOp, ho, hx, hrun, Sem.run]) (h1 h0)
  · exact GL_new hw hd (by simp only [execOp, ho, hx]; simp [hrun, Sem.run]) (h2 e _ he (hp.turnAt i hi (Hp.setIter (g := g) hr w1 hal)))
theorem rd_entry {g r s c : Nat} {seen : Array Nat} {es : Array MapEntry} {e : MapEntry} (ho : o.op = .entry x) (hx : ev n f x = .pointer (some ⟨r, 0, none⟩))
    (hr : (Res.blk r (.mapIter (some g) s (seen.push e.born) c)).at_ w) (hb : (Res.blk g (.map es c)).at_ w) (he : e ∈ es.toList) (hn : (es.toList.map (·.born)).Nodup) : Rd P n f o w (.tuple #[e.key, e.val]) := by
  have h := run_entry_at (P := P) w r g s seen es c e hr hb he hn
  simp [Rd, execOp, ho, hx, h, Sem.run]
end Go.Mo
