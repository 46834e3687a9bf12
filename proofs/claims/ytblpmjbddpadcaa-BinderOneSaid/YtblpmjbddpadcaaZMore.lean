/- More laws of the operations: what came to be needed later. -/
import Derived.Test.YtblpmjbddpadcaaZActs
set_option linter.unusedVariables false
set_option linter.unusedSimpArgs false
namespace Go.Mo
open Go.RowKit Go.Lib
theorem bo_arrB {P : Program} {T E : TypeId} {m : Nat} {a b : List UInt8} {w : World} {x y : Operand} (hT : P.underlying T = some (.array m E)) (hE : P.underlying E = some (.int .u8)) (hs : (P.info? E).map (·.size) = some 1) (hg : P.eqGuardType P.depth T = false) (h1 : a.length = m) (h2 : b.length = m) :
    Bo P .eql T x y (.agg ⟨bys a⟩) (.agg ⟨bys b⟩) w (.bool (decide (a = b))) ∧ Bo P .neq T x y (.agg ⟨bys a⟩) (.agg ⟨bys b⟩) w (.bool (!decide (a = b))) := by
  have h := bo_arr (x := x) (y := y) (w := w) (xs := a.map fun u => (u.toNat : Int)) (ys := b.map fun u => (u.toNat : Int)) hT hE hs hg (by simpa using h1) (by simpa using h2)
  have e : ∀ l : List UInt8, (l.map fun u => (u.toNat : Int)).map (Value.int .u8) = bys l := fun l => by simp [bys, List.map_map, Function.comp_def]
  rw [e, e] at h
  have e2 : decide ((a.map fun u => (u.toNat : Int)) = b.map fun u => (u.toNat : Int)) = decide (a = b) := by
    congr 1
    refine propext ⟨fun hq => bys_inj (by rw [← e a, ← e b, hq]), fun hq => by rw [hq]⟩
  rwa [e2] at h
section iface
variable {P : Program} {n : Nat} {ops : Array Oper} {f : Fm} {w w0 : World} {S : List Nat} {H : List Res} {K : Fm → World → Prop} {o : Oper} {rest : List Oper} {d : Nat} {x y : Operand}
/-- A conversion of bytes that were laid down as a literal: they are marked, and never written again. -/
theorem GL_convB {T E i m g : Nat} {xs : List Value} (hw : Wn n ops f o) (hd : o.dst = some d) (ho : o.op = .convert T T x) (hx : ev n f x = .slice (some ⟨g, 0, none⟩) m m) (hT : P.underlying T = some (.slice E)) (hE : P.underlying E = some (.int .u8)) (hp : Hp w0 S w H) (hi : H[i]? = some (.row E 1 (.slice (some ⟨g, 0, none⟩) m m) m xs))
    (h : ∀ w', Hp w0 S w' (H.set i (.blk g (.cells ⟨xs⟩ E (m, m + 1)))) → GL P n ops rest (upd f d (.slice (some ⟨g, 0, none⟩) m m)) w' K) : GL P n ops (o :: rest) f w K := by
  have hown := (hp.get i hi).2
  obtain ⟨cur, hg, hsz, hxs⟩ : ∃ cur : Array Value, w.heap[g]? = some (.cells cur E (0, 0)) ∧ cur.size = m ∧ cur.toList = xs := by
    rcases hown with ⟨e, _⟩ | ⟨g', cap, cur, e, _, hg, hn, _, hs, ht⟩
    · cases e
    · simp only [Value.slice.injEq, Option.some.injEq, Addr.mk.injEq, and_true, true_and] at e
      obtain ⟨rfl, rfl⟩ := e
      refine ⟨cur, hg, by simpa using hs, ?_⟩
      rw [← ht, List.take_of_length_le (by simp; omega)]
  have hlt : g < w.heap.size := (Array.getElem?_eq_some_iff.1 hg).1
  have hsh : w.shape? g = some (E, cur.size) := by simp [World.shape?, hg]
  have hb : (w.freeze ⟨g, cur.size, none⟩ 1).heap = w.heap.modify g (fun | .cells c elem (lo, hi) => .cells c elem (if lo == hi then (cur.size, cur.size + 1) else (min lo cur.size, max hi (cur.size + 1))) | o => o) := rfl
  have hk : Hp w [g] (w.freeze ⟨g, cur.size, none⟩ 1) [.blk g (.cells ⟨xs⟩ E (m, m + 1))] := by
    refine ⟨⟨rfl, rfl, rfl, by rw [hb]; simp, fun k hk hn => ?_⟩, ?_, by simp [Res.foot], by simp⟩
    · rw [hb, Array.getElem?_modify]
      simp only [List.mem_singleton] at hn
      rw [if_neg (by omega)]
    · intro r hr
      simp only [List.mem_singleton] at hr
      subst hr
      show (w.freeze ⟨g, cur.size, none⟩ 1).heap[g]? = _
      rw [hb, Array.getElem?_modify, if_pos rfl, hg]
      subst hxs hsz
      simp
  refine GL_new (w' := w.freeze ⟨g, cur.size, none⟩ 1) (v := .slice (some ⟨g, 0, none⟩) m m) hw hd ?_ (h _ (hp.turnAt i hi hk))
  simp [execOp, ho, hx, convert, run_underlying hT, run_underlying hE, markStringish, hsh, Sem.run]
theorem Sl.blk {w : World} {g T : Nat} {xs : List Value} {fz : Nat × Nat} (h : (Res.blk g (.cells ⟨xs⟩ T fz)).at_ w) (sz n : Nat) (hl : xs.length = n * sz) (hm : n ≤ maxLen) : Sl w (.slice (some ⟨g, 0, none⟩) n n) sz n xs := by
  refine ⟨_, n, rfl, Nat.le_refl _, hm, hl, .inr ⟨g, 0, rfl, fun j u hj => ?_⟩⟩
  have hg : w.heap[g]? = some (.cells ⟨xs⟩ T fz) := h
  simp only [World.cell?, hg, Nat.zero_add]
  simpa using hj
theorem rd_indexV {T E : TypeId} {k : IntKind} {i : Int} {j len : Nat} {L : List Value} {d : TypeDesc} {u : Value} (ho : o.op = .index T x y) (hx : ev n f x = .agg ⟨L⟩) (hy : ev n f y = .int k i) (hT : P.underlying T = some (.array len E)) (hE : P.underlying E = some d) (hd : plainT d = true)
    (hs : (P.info? E).map (·.size) = some 1) (hi : i = (j : Int)) (hj : j < len) (hu : L[j]? = some u) : Rd P n f o w u := by
  subst hi
  have h1 : (isAgg E).run P w = .ok false w := by rw [run_isAgg hE]; cases d <;> simp [plainT] at hd <;> rfl
  have h2 : (part E ⟨L⟩ j).run P w = .ok u w := by simp [part, h1, hu, Sem.run]
  simp [Rd, execOp, ho, hx, hy, Instr.index, asIntOf, run_underlying hT, run_sizeOf hs, hj, h2, Sem.run]
theorem bo_boolE {op : BinOp} {T : TypeId} {a b : Value} {p q : Bool} (h : Bo P op T x y a b w (.bool p)) (e : p = q) : Bo P op T x y a b w (.bool q) := e ▸ h
theorem cells.keep {g T : Nat} {L : List Value} {w w' : World} (h : (cells g T L).at_ w) (hm : Mod [] w w') : (cells g T L).at_ w' := Res.kept h hm (by simp)
end iface
end Go.Mo
