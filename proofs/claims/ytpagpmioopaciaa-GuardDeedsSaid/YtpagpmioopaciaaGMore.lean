/- More laws of the operations: what came to be needed later. -/
import Derived.Test.YtpagpmioopaciaaGActs
set_option linter.unusedVariables false
set_option linter.unusedSimpArgs false
namespace Go.Mo
open Go.RowKit Go.Lib
section iface
variable {P : Program} {n : Nat} {ops : Array Oper} {f : Fm} {w w0 : World} {S : List Nat} {H : List Res} {K : Fm → World → Prop} {o : Oper} {rest : List Oper} {d : Nat} {x y : Operand}
theorem Sl.blk {w : World} {g T : Nat} {xs : List Value} {fz : Nat × Nat} (h : (Res.blk g (.cells ⟨xs⟩ T fz)).at_ w) (sz n : Nat) (hl : xs.length = n * sz) (hm : n ≤ maxLen) : Sl w (.slice (some ⟨g, 0, none⟩) n n) sz n xs := by
  refine ⟨_, n, rfl, Nat.le_refl _, hm, hl, .inr ⟨g, 0, rfl, fun j u hj => ?_⟩⟩
  have hg : w.heap[g]? = some (.cells ⟨xs⟩ T fz) := h
  simp only [World.cell?, hg, Nat.zero_add]
  simpa using hj
theorem bo_boolE {op : BinOp} {T : TypeId} {a b : Value} {p q : Bool} (h : Bo P op T x y a b w (.bool p)) (e : p = q) : Bo P op T x y a b w (.bool q) := e ▸ h
theorem cells.keep {g T : Nat} {L : List Value} {w w' : World} (h : (cells g T L).at_ w) (hm : Mod [] w w') : (cells g T L).at_ w' := Res.kept h hm (by simp)
end iface
end Go.Mo
