/- More laws of the operations: what came to be needed later. -/
import Derived.Test.YtdbkmpnknkldlaaHActs
set_option linter.unusedVariables false
set_option linter.unusedSimpArgs false
namespace Go.Mo
open Go.RowKit Go.Lib
theorem bo_arrB {P : Program} {T E : TypeId} {m : Nat} {a b : List UInt8} {w : World} {x y : Operand} (hT : P.underlying T = some (.array m E)) (hE : P.underlying E = some (.int .u8)) (hs : (P.info? E).map (·.size) = some 1) (hg : P.eqGuardType P.depth T = false) (h1 : a.length = m) (h2 : b.length = m) :
    Bo P .eql T x y (.agg ⟨bys a⟩) (.agg ⟨bys b⟩) w (.bool (decide (a = b))) ∧ Bo P .neq T x y (.agg ⟨bys a⟩) (.agg ⟨bys b⟩) w (.bool (!decide (a = b))) := by
  have h := bo_arr (x := x) (y := y) (w := w) (xs := a.map fun u => (u.toNat : Int)) (ys := b.map fun u => (u.toNat : Int)) hT hE hs hg (by simpa using h1) (by simpa using h2)
  have e : ∀ l : List UInt8, (l.map fun u => (u.toNat : Int)).map (Value.int .u8) = bys l := fun l => by simp [bys, List.map_map, Function.comp_def]
  rw [e, e] at h
  have e2 : decide ((a.map fun u => (u.toNat : Int)) = b.map fun u => (u.toNat : Int)) = decide (a = b) := by
    congr 1
    refine propext ⟨fun hq => bys_inj (by rw [← e a, ← e b, hq]), fun hq => by rw [hq]⟩
  rwa [e2] at h
section iface
variable {P : Program} {n : Nat} {ops : Array Oper} {f : Fm} {w w0 : World} {S : List Nat} {H : List Res} {K : Fm → World → Prop} {o : Oper} {rest : List Oper} {d : Nat} {x y : Operand}
theorem Sl.blk {w : World} {g T : Nat} {xs : List Value} {fz : Nat × Nat} (h : (Res.blk g (.cells ⟨xs⟩ T fz)).at_ w) (sz n : Nat) (hl : xs.length = n * sz) (hm : n ≤ maxLen) : Sl w (.slice (some ⟨g, 0, none⟩) n n) sz n xs := by
  refine ⟨_, n, rfl, Nat.le_refl _, hm, hl, .inr ⟨g, 0, rfl, fun j u hj => ?_⟩⟩
  have hg : w.heap[g]? = some (.cells ⟨xs⟩ T fz) := h
  simp only [World.cell?, hg, Nat.zero_add]
  simpa using hj
theorem bo_boolE {op : BinOp} {T : TypeId} {a b : Value} {p q : Bool} (h : Bo P op T x y a b w (.bool p)) (e : p = q) : Bo P op T x y a b w (.bool q) := e ▸ h
theorem cells.keep {g T : Nat} {L : List Value} {w w' : World} (h : (cells g T L).at_ w) (hm : Mod [] w w') : (cells g T L).at_ w' := Res.kept h hm (by simp)
end iface
end Go.Mo
