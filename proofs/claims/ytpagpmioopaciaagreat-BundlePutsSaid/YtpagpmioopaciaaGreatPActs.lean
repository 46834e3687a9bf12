/- The laws of the operations that make, write and grow memory, and of a function's results. Nothing of the program stands here. -/
import Derived.Test.YtpagpmioopaciaaGreatPOps
import Derived.Maps.AppendAt
import Derived.Lib.AppendZeros
import Derived.Lib.AppendZerosOnto
set_option linter.unusedVariables false
set_option linter.unusedSimpArgs false
namespace Go.Mo
open Go.RowKit Go.Lib
def bys (l : List UInt8) : List Value := l.map fun b => .int .u8 (b.toNat : Int)
theorem bys_length (l : List UInt8) : (bys l).length = l.length := by simp [bys]
theorem bys_append (a b : List UInt8) : bys (a ++ b) = bys a ++ bys b := by simp [bys]
theorem bys_nil : bys [] = [] := rfl
theorem bys_cons (b : UInt8) (l : List UInt8) : bys (b :: l) = .int .u8 (b.toNat : Int) :: bys l := rfl
theorem bys_one (l : List UInt8) : ∀ u ∈ bys l, u.oneCell' = true := by
  intro u hu
  obtain ⟨b, _, rfl⟩ := List.mem_map.1 hu
  rfl
theorem bys_get (l : List UInt8) (j : Nat) (h : j < l.length) : (bys l)[j]? = some (.int .u8 (l[j].toNat : Int)) := by simp [bys, h]
theorem bys_getD (l : List UInt8) (j : Nat) (h : j < l.length) : (bys l)[j]? = some (.int .u8 ((l.getD j 0).toNat : Int)) := by
  rw [bys_get l j h]; simp [List.getD_eq_getElem?_getD, h]
theorem bys_drop (l : List UInt8) (k : Nat) : (bys l).drop k = bys (l.drop k) := by simp [bys]
theorem bys_take (l : List UInt8) (k : Nat) : (bys l).take k = bys (l.take k) := by simp [bys]
theorem bys_replicate (k : Nat) (b : UInt8) : bys (List.replicate k b) = List.replicate k (.int .u8 (b.toNat : Int)) := by simp [bys]
theorem bys_inj {a b : List UInt8} (h : bys a = bys b) : a = b := by
  induction a generalizing b with
  | nil => cases b with
    | nil => rfl
    | cons => simp [bys] at h
  | cons x a ih => cases b with
    | nil => simp [bys] at h
    | cons y b =>
      simp only [bys_cons, List.cons.injEq, Value.int.injEq, true_and] at h
      have : x = y := UInt8.toNat_inj.1 (by omega)
      rw [this, ih h.2]
theorem one1 {v : Value} (h : v.oneCell' = true) : ∀ u ∈ [v], u.oneCell' = true := by
  intro u hu
  simp only [List.mem_singleton] at hu
  subst hu
  exact h
theorem one0 : ∀ u ∈ ([] : List Value), u.oneCell' = true := by simp
theorem oneC {v : Value} {l : List Value} (h : v.oneCell' = true) (h2 : ∀ u ∈ l, u.oneCell' = true) : ∀ u ∈ v :: l, u.oneCell' = true := by
  intro u hu
  rcases List.mem_cons.1 hu with rfl | hu
  · exact h
  · exact h2 u hu
section acts
variable {P : Program} {n : Nat} {ops : Array Oper} {f : Fm} {w w0 : World} {S : List Nat} {H : List Res} {K : KP} {o : Oper} {rest : List Oper} {d : Nat} {x y : Operand}
theorem run_zero {T : TypeId} {z : Value} (hz : (P.info? T).bind (·.zero) = some z) : (zeroValue T).run P w = .ok z w := by
  obtain ⟨inf, hi, h0⟩ := Option.bind_eq_some_iff.1 hz
  simp [zeroValue, typeInfo, hi, h0, Sem.run, program]
theorem GL_alloc {T : TypeId} {z : Value} {L : List Value} (hw : Wn n ops f o) (hd : o.dst = some d) (ho : o.op = .alloc T) (hz : (P.info? T).bind (·.zero) = some z) (hL : z.cells = ⟨L⟩) (hp : Hp w0 S w H)
    (h : ∀ g w', Hp w0 S w' (cells g T L :: H) → GL P n ops rest (upd f d (.pointer (some ⟨g, 0, none⟩))) w' K) : GL P n ops (o :: rest) f w K := by
  refine GL_new (w' := w.alloc (.cells ⟨L⟩ T)) (v := .pointer (some ⟨w.heap.size, 0, none⟩)) hw hd ?_ (h w.heap.size _ (hp.comp (Hp.newBlk w _)))
  simp [execOp, ho, Instr.alloc, run_zero hz, newVar, newRow, newObj, hL, Sem.run]
theorem GL_box {T : TypeId} {v : Value} {L : List Value} (hw : Wn n ops f o) (hd : o.dst = some d) (ho : o.op = .box T x) (hx : ev n f x = v) (hL : v.cells = ⟨L⟩) (hp : Hp w0 S w H)
    (h : ∀ g w', Hp w0 S w' (cells g T L :: H) → GL P n ops rest (upd f d (.pointer (some ⟨g, 0, none⟩))) w' K) : GL P n ops (o :: rest) f w K := by
  refine GL_new (w' := w.alloc (.cells ⟨L⟩ T)) (v := .pointer (some ⟨w.heap.size, 0, none⟩)) hw hd ?_ (h w.heap.size _ (hp.comp (Hp.newBlk w _)))
  simp [execOp, ho, hx, Instr.box, newVar, newRow, newObj, hL, Sem.run]
theorem run_lit {T E sz len : Nat} {z : Value} {ps : Array (Nat × Value)} {L : List Value} (hT : P.underlying T = some (.slice E))
    (hs : (P.info? E).map (·.size) = some sz) (hz : (P.info? E).bind (·.zero) = some z) (hl : len * sz ≤ 16777216)
    (hf : Instr.fill (fun i => some (i * sz, sz)) ((Array.range (len * sz)).map (z.cells[· % z.cells.size]!)) ps.toList = some ⟨L⟩) :
    (Instr.buildSlice T len ps).run P w = .ok (.slice (some ⟨w.heap.size, 0, none⟩) len len) (w.alloc (.cells ⟨L⟩ E)) := by
  have hl' : ¬ 2 ^ 24 < len * sz := by omega
  unfold Instr.buildSlice
  simp only [Sem.run_bind, run_underlying hT, Result.andThen_ok, run_sizeOf hs]
  rw [if_neg (by simpa using hl')]
  by_cases h0 : len * sz = 0
  · simp only [h0, Array.range_zero', List.map_toArray, List.map_nil, if_true, Sem.run_bind, Sem.run_pure, Result.andThen_ok, Array.map_empty] at hf ⊢
    simp [hf, newRow, newObj, Sem.run]
  · simp only [h0, if_false, Sem.run_bind, run_zero hz, Sem.run_pure, Result.andThen_ok] at hf ⊢
    rw [hf]
    simp [newRow, newObj, Sem.run]
/-- A slice literal: its cells are told. -/
theorem GL_lit {T E sz len : Nat} {z : Value} {ps : Array (Nat × Operand)} {L : List Value} (hw : Wn n ops f o) (hd : o.dst = some d) (ho : o.op = .buildSlice T len ps) (hT : P.underlying T = some (.slice E))
    (hs : (P.info? E).map (·.size) = some sz) (hz : (P.info? E).bind (·.zero) = some z) (hl : Nat.ble (len * sz) 16777216 = true)
    (hf : Instr.fill (fun i => some (i * sz, sz)) ((Array.range (len * sz)).map (z.cells[· % z.cells.size]!)) (ps.map fun (i, x) => (i, ev n f x)).toList = some ⟨L⟩) (hlen : L.length = len * sz) (hm : Nat.ble len 4096 = true) (hp : Hp w0 S w H)
    (h : ∀ g w', Hp w0 S w' (.row E sz (.slice (some ⟨g, 0, none⟩) len len) len L :: H) → GL P n ops rest (upd f d (.slice (some ⟨g, 0, none⟩) len len)) w' K) : GL P n ops (o :: rest) f w K := by
  have hm' := Nat.le_of_ble_eq_true hm
  refine GL_new (w' := w.alloc (.cells ⟨L⟩ E)) (v := .slice (some ⟨w.heap.size, 0, none⟩) len len) hw hd ?_ (h w.heap.size _ ?_)
  · have hr := run_lit (P := P) (w := w) hT hs hz (Nat.le_of_ble_eq_true hl) hf
    simp only [execOp, ho]
    rw [Sem.run_bind, hr]
    rfl
  · refine hp.comp (H' := [.row E sz (.slice (some ⟨w.heap.size, 0, none⟩) len len) len L]) ⟨Mod.alloc w _, ?_, by simp [Res.foot, Value.ownBlock], by simp⟩
    intro r hr
    simp only [List.mem_singleton] at hr
    subst hr
    exact ⟨hlen, .inr ⟨_, len, ⟨L⟩, rfl, Nat.zero_le _, heap_alloc_new w _, Nat.le_refl _, by simp only [maxLen]; omega, by simpa using hlen, by simp [← hlen]⟩⟩
theorem madeCells_one (z : Value) (k : Nat) : madeCells #[z] k = ⟨List.replicate k z⟩ := by
  apply Array.ext
  · simp [madeCells]
  · intro i h1 h2; simp [madeCells, Nat.mod_one]
/-- make of a slice of plain elements. -/
theorem GL_make {T E bytes m : Nat} {z : Value} {k : IntKind} {l : Int} (hw : Wn n ops f o) (hd : o.dst = some d) (ho : o.op = .makeSlice T x x) (hx : ev n f x = .int k l) (hT : P.underlying T = some (.slice E))
    (hi : (P.info? E).map (fun i => (i.zero, i.size, i.bytes)) = some (some z, 1, bytes)) (hz : z.cells = #[z]) (hl : l = (m : Int)) (hb : bytes * m ≤ 140737488355328) (hm : m ≤ 140737488355328) (hp : Hp w0 S w H)
    (h : ∀ g w', Hp w0 S w' (.row E 1 (.slice (some ⟨g, 0, none⟩) m m) m (List.replicate m z) :: H) → GL P n ops rest (upd f d (.slice (some ⟨g, 0, none⟩) m m)) w' K) : GL P n ops (o :: rest) f w K := by
  subst hl
  obtain ⟨i, hi, hz0, hz1, hz2⟩ := info_parts hi
  have hb' : (i.bytes : Int) * (m : Int) ≤ 281474976710656 := by
    have h1 : ((bytes * m : Nat) : Int) ≤ 281474976710656 := by omega
    rw [hz2]
    rwa [Int.natCast_mul] at h1
  have hr := run_make (P := P) w T E i z hT hi hz0 k k (m : Int) (m : Int) (by omega) (by omega) hb' (by omega)
  simp only [Int.toNat_natCast, hz1, Nat.mul_one, hz, madeCells_one] at hr
  refine GL_new (w' := w.alloc (.cells ⟨List.replicate m z⟩ E)) (v := .slice (some ⟨w.heap.size, 0, none⟩) m m) hw hd (by simp [execOp, ho, hx, hr, Sem.run]) (h w.heap.size _ ?_)
  refine hp.comp (H' := [.row E 1 (.slice (some ⟨w.heap.size, 0, none⟩) m m) m (List.replicate m z)]) ⟨Mod.alloc w _, ?_, by simp [Res.foot, Value.ownBlock], by simp⟩
  intro r hr
  simp only [List.mem_singleton] at hr
  subst hr
  exact ⟨by simp, .inr ⟨_, m, _, rfl, Nat.zero_le _, heap_alloc_new w _, Nat.le_refl _, by simp only [maxLen]; omega, by simp, by simp⟩⟩
theorem Mod.setRow (w : World) (g : Nat) (cs : Array Value) : Mod [g] w (w.setRow g cs) :=
  ⟨rfl, rfl, rfl, by simp, fun k _ hk => setRow_other w g k cs (by simpa using hk)⟩
theorem Hp.setRow (w : World) {g T : Nat} {L L' : List Value} (h : (cells g T L).at_ w) : Hp w [g] (w.setRow g ⟨L'⟩) [cells g T L'] :=
  ⟨Mod.setRow w g _, by intro r hr; simp only [List.mem_singleton] at hr; subst hr; exact setRow_heap w g _ _ T _ h, by simp [Res.foot], by simp⟩
theorem run_storeVar {T sz g off : Nat} {v : Value} {L vs : List Value} {U : TypeId} (hs : (P.info? T).map (·.size) = some sz) (hv : v.cells = ⟨vs⟩) (hl : vs.length = sz) (h1 : ∀ u ∈ vs, u.oneCell' = true) (hg : (Go.Mo.cells g U L).at_ w) (hfit : off + sz ≤ L.length) :
    (storeVar T ⟨g, off, none⟩ v).run P w = .ok () (w.setRow g ⟨splice L off vs⟩) := by
  have hst := run_storeCells_at (P := P) g off U vs 0 ⟨L⟩ w hg (by simpa [hl] using hfit) h1
  simp only [Nat.add_zero] at hst
  simp [storeVar, run_sizeOf hs, hv, hl, hst, Sem.run, splice, List.append_assoc]
/-- A store into a block that is known whole. -/
theorem GL_store {T sz g off i U : Nat} {v : Value} {L L' vs : List Value} (hw : Wn n ops f o) (hd : o.dst = none) (ho : o.op = .store T x y) (hx : ev n f x = .pointer (some ⟨g, off, none⟩)) (hy : ev n f y = v)
    (hs : (P.info? T).map (·.size) = some sz) (hv : v.cells = ⟨vs⟩) (hl : vs.length = sz) (h1 : ∀ u ∈ vs, u.oneCell' = true) (hp : Hp w0 S w H) (hi : H[i]? = some (Go.Mo.cells g U L)) (hfit : off + sz ≤ L.length) (hL : splice L off vs = L')
    (h : ∀ w', Hp w0 S w' (H.set i (Go.Mo.cells g U L')) → GL P n ops rest f w' K) : GL P n ops (o :: rest) f w K := by
  subst hL
  have hg := hp.get i hi
  refine GL_do (w' := w.setRow g ⟨splice L off vs⟩) hw hd ?_ (h _ (hp.turnAt i hi (Hp.setRow w hg)))
  simp [execOp, ho, hx, hy, Instr.storeAt, Instr.sureAddr, run_storeVar hs hv hl h1 hg hfit, Sem.run]
theorem splice_get {α : Type} (L : List α) (off : Nat) (vs : List α) (h : off + vs.length ≤ L.length) (j : Nat) : (splice L off vs)[j]? = if j < off then L[j]? else if j < off + vs.length then vs[j - off]? else L[j]? := by
  simp only [splice, List.getElem?_append, List.length_take, List.getElem?_take, List.getElem?_drop]
  rw [show min off L.length = off by omega]
  split
  · rfl
  · split
    · rw [if_pos (by omega)]
    · rw [if_neg (by omega)]; congr 1; omega
theorem splice_take {α : Type} (L : List α) (off : Nat) (vs : List α) (k : Nat) (h : off + vs.length ≤ min k L.length) : (splice L off vs).take k = splice (L.take k) off vs := by
  apply List.ext_getElem?
  intro j
  rw [List.getElem?_take, splice_get L off vs (by omega), splice_get (L.take k) off vs (by rw [List.length_take]; omega), List.getElem?_take]
  by_cases hj : j < k
  · simp [hj]
  · simp only [hj, if_false]
    rw [if_neg (by omega), if_neg (by omega)]
theorem row_turn {T sz n' : Nat} {v : Value} {g cap : Nat} {xs xs' : List Value} {off : Nat} {vs : List Value} (h : (Res.row T sz v n' xs).at_ w) (hv : v = .slice (some ⟨g, 0, none⟩) n' cap) (hfit : off + vs.length ≤ xs.length) (hx : splice xs off vs = xs') :
    ∃ cur, (Go.Mo.cells g T cur).at_ w ∧ off + vs.length ≤ cur.length ∧ Hp w v.ownBlock.toList (w.setRow g ⟨splice cur off vs⟩) [.row T sz v n' xs'] := by
  subst hv hx
  have hxl := h.1
  rcases h.2 with ⟨h2, _⟩ | ⟨g', cap', cur, h2, _, hg, hn, hc, hs, ht⟩
  · cases h2
  · simp only [Value.slice.injEq, Option.some.injEq, Addr.mk.injEq, and_true, true_and] at h2
    obtain ⟨rfl, rfl⟩ := h2
    have hle : n' * sz ≤ cap * sz := Nat.mul_le_mul_right _ hn
    have hcl : cur.toList.length = cap * sz := by simpa using hs
    refine ⟨cur.toList, hg, by omega, ⟨Mod.setRow w g _, ?_, by simp [Res.foot, Value.ownBlock], by simp⟩⟩
    intro r hr
    simp only [List.mem_singleton] at hr
    subst hr
    refine ⟨by rw [length_splice _ _ _ hfit]; exact hxl, .inr ⟨g, cap, _, rfl, Nat.zero_le _, setRow_heap w g _ _ T _ hg, hn, hc, ?_, ?_⟩⟩
    · show (splice cur.toList off vs).length = _
      rw [length_splice _ _ _ (by omega)]; exact hcl
    · show (splice cur.toList off vs).take (n' * sz) = _
      rw [← ht] at hfit ⊢
      simp only [List.length_take] at hfit
      exact splice_take cur.toList off vs (n' * sz) (by omega)
/-- A store into a place of a row. -/
theorem GL_storeR {T sz g off i E esz m cap : Nat} {v rv : Value} {xs xs' vs : List Value} (hw : Wn n ops f o) (hd : o.dst = none) (ho : o.op = .store T x y) (hx : ev n f x = .pointer (some ⟨g, off, none⟩)) (hy : ev n f y = v)
    (hs : (P.info? T).map (·.size) = some sz) (hv : v.cells = ⟨vs⟩) (hl : vs.length = sz) (h1 : ∀ u ∈ vs, u.oneCell' = true) (hp : Hp w0 S w H) (hi : H[i]? = some (.row E esz rv m xs)) (hr : rv = .slice (some ⟨g, 0, none⟩) m cap)
    (hfit : off + sz ≤ xs.length) (hL : splice xs off vs = xs')
    (h : ∀ w', Hp w0 S w' (H.set i (.row E esz rv m xs')) → GL P n ops rest f w' K) : GL P n ops (o :: rest) f w K := by
  obtain ⟨cur, hg, hf, hk⟩ := row_turn (hp.get i hi) hr (by rw [hl]; exact hfit) hL
  refine GL_do (w' := w.setRow g ⟨splice cur off vs⟩) hw hd ?_ (h _ (hp.turnAt i hi hk))
  simp [execOp, ho, hx, hy, Instr.storeAt, Instr.sureAddr, run_storeVar (off := off) hs hv hl h1 hg (by omega), Sem.run]
theorem Hp.ofGrown {w' : World} {v v' : Value} {E sz m : Nat} {xs : List Value} (hg : w.grownBy w' v.ownBlock) (hown : w'.ownsRow 0 E sz v' m xs) (hb : v'.ownBlock = v.ownBlock ∨ v'.ownBlock = some w.heap.size) : Hp w v.ownBlock.toList w' [.row E sz v' m xs] :=
  ⟨Mod.grown hg, by simpa [Res.at_] using hown, by
    intro r hr g hf
    simp only [List.mem_singleton] at hr
    subst hr
    simp only [Res.foot] at hf
    rcases hb with hb | hb
    · rw [hb] at hf; exact .inr (by simp [hf])
    · rw [hb] at hf; simp only [Option.toList_some, List.mem_singleton] at hf; exact .inl (by omega), by simp⟩
/-- append to an owned row, of what a slice holds. -/
theorem GL_append {T E sz bytes i m m' : Nat} {z v u : Value} {xs ys : List Value} (hw : Wn n ops f o) (hd : o.dst = some d) (ho : o.op = .call { callee := .builtin .append, args := #[x, y], argTypes := #[T, T] }) (hx : ev n f x = v) (hy : ev n f y = u)
    (hT : P.underlying T = some (.slice E)) (hE : (P.info? E).map (fun i => (i.zero, i.size, i.bytes)) = some (some z, sz, bytes)) (hzs : z.cells.size = sz) (hsz : 0 < sz) (hp : Hp w0 S w H) (hi : H[i]? = some (.row E sz v m xs)) (hs : Sl w u sz m' ys)
    (h1 : ∀ a ∈ ys, a.oneCell' = true) (hb : (m + m') * bytes ≤ 140737488355328) (hm : m + m' ≤ 140737488355328)
    (h : ∀ v' w', Hp w0 S w' (H.set i (.row E sz v' (m + m') (xs ++ ys))) → GL P n ops rest (upd f d v') w' K) : GL P n ops (o :: rest) f w K := by
  obtain ⟨inf, hinf, hz0, hz1, hz2⟩ := info_parts hE
  have hown : w.ownsRow 0 E sz v m xs := hp.get i hi
  have h63 : m + m' ≤ maxLen := by simp only [maxLen]; omega
  obtain ⟨A, c, rfl, hc1, hc2, hl, hA⟩ := hs
  have key : ∃ v' w', (Builtin.append_ #[T, T] o.type #[v, .slice A m' c]).run P w = .ok v' w' ∧ w'.ownsRow 0 E sz v' (m + m') (xs ++ ys) ∧ w.grownBy w' v.ownBlock ∧ (v'.ownBlock = v.ownBlock ∨ v'.ownBlock = some w.heap.size) := by
    by_cases h0 : ys = []
    · subst h0
      have hm0 : m' = 0 := by
        rcases Nat.eq_zero_or_pos m' with h | h
        · exact h
        · have := Nat.mul_pos h hsz; simp at hl; omega
      subst hm0
      refine ⟨v, w, ?_, by simpa using hown, ⟨rfl, rfl, rfl, Nat.le_refl _, fun _ _ _ => rfl⟩, .inl rfl⟩
      have hv : ∃ A' c', v = .slice A' m c' ∧ m ≤ c' := by
        rcases hown.2 with ⟨rfl, rfl⟩ | ⟨g, cap, cur, rfl, _, _, hn, _⟩
        · exact ⟨none, 0, rfl, Nat.le_refl _⟩
        · exact ⟨_, cap, rfl, hn⟩
      obtain ⟨A', c', rfl, hle⟩ := hv
      cases A <;> cases A' <;> simp [Builtin.append_, run_underlying hT, sizeOf, typeInfo, hinf, Builtin.lenOf, hle, Builtin.firstCells, loadCells, loadCellsFrom, storeCells, Sem.run]
    · rcases hA with hA | ⟨g, b, rfl, hA⟩
      · exact absurd hA h0
      · have hadd : ∀ j, (⟨g, b, none⟩ : Addr).add j = ⟨g, b + j, none⟩ := fun j => by unfold Addr.add; split <;> simp_all
        obtain ⟨v', w', r1, r2, r3, _, r5⟩ := run_append_own_at (P := P) w 0 T o.type E inf z sz bytes hT hinf hz0 hz1 hz2 hzs hsz v m xs hown ⟨g, b, none⟩ m' c ys hl (fun j u hj => by rw [hadd]; exact hA j u hj) h1 h63 hb (Nat.zero_le _)
        exact ⟨v', w', r1, r2, r3, r5⟩
  obtain ⟨v', w', hr, hown', hgr, hbk⟩ := key
  refine GL_new (w' := w') (v := v') hw hd ?_ (h v' w' (hp.turnAt i hi (Hp.ofGrown hgr hown' hbk)))
  simp [execOp, ho, resolve, invoke, builtin, hx, hy, hr, Sem.run]
/-- append to a slice that is full: a new row. -/
theorem GL_appendFull {T E sz bytes m m' c0 : Nat} {z u : Value} {A0 : Option Addr} {xs ys : List Value} (hw : Wn n ops f o) (hd : o.dst = some d) (ho : o.op = .call { callee := .builtin .append, args := #[x, y], argTypes := #[T, T] }) (hx : ev n f x = .slice A0 m c0) (hy : ev n f y = u)
    (hT : P.underlying T = some (.slice E)) (hE : (P.info? E).map (fun i => (i.zero, i.size, i.bytes)) = some (some z, sz, bytes)) (hzs : z.cells.size = sz) (hsz : 0 < sz) (hp : Hp w0 S w H) (hs0 : Sl w (.slice A0 m c0) sz m xs) (hs : Sl w u sz m' ys)
    (hfull : c0 < m + m') (hm0 : 0 < m) (hne : 0 < m') (hb : (m + m') * bytes ≤ 140737488355328) (hm : m + m' ≤ 140737488355328)
    (h : ∀ v' w', Hp w0 S w' (.row E sz v' (m + m') (xs ++ ys) :: H) → GL P n ops rest (upd f d v') w' K) : GL P n ops (o :: rest) f w K := by
  obtain ⟨inf, hinf, hz0, hz1, hz2⟩ := info_parts hE
  obtain ⟨A, c, rfl, hc1, hc2, hl, hA⟩ := hs
  obtain ⟨A1, c1, e0, hc3, hc4, hl0, hA1⟩ := hs0
  injection e0 with e1 e2 e3
  subst e1 e3
  have hxs : xs ≠ [] := fun e => by have := Nat.mul_pos hm0 hsz; simp [e] at hl0; omega
  have hys : ys ≠ [] := fun e => by have := Nat.mul_pos hne hsz; simp [e] at hl; omega
  obtain ⟨g0, b0, rfl, hB1⟩ := hA1.resolve_left hxs
  obtain ⟨g, b, rfl, hB⟩ := hA.resolve_left hys
  have hadd : ∀ g b j, (⟨g, b, none⟩ : Addr).add j = ⟨g, b + j, none⟩ := fun g b j => by unfold Addr.add; split <;> simp_all
  subst hz1 hz2
  have hr := run_append_grow (P := P) w T o.type E inf z hT hinf hz0 ⟨g0, b0, none⟩ m c0 xs hl0 (fun j u hj => by rw [hadd]; exact hB1 j u hj) ⟨g, b, none⟩ m' c ys hl (fun j u hj => by rw [hadd]; exact hB j u hj) hfull (by omega) (growslice_fits hfull hb)
  have hge := grownCap_ge w (m + m') c0 E
  have hcm : grownCap w (m + m') c0 E ≤ maxLen := grownCap_le_maxLen w (m + m') c0 E (by simp only [maxLen]; omega)
  have hlen : (xs ++ ys).length = (m + m') * inf.size := by rw [List.length_append, hl0, hl, Nat.add_mul]
  refine GL_new (v := .slice (some ⟨w.heap.size, 0, none⟩) (m + m') (grownCap w (m + m') c0 E)) hw hd (by simp [execOp, ho, resolve, invoke, builtin, hx, hy, hr, Sem.run]; rfl) (h _ _ ?_)
  refine hp.comp (H' := [_]) ⟨⟨rfl, rfl, rfl, by simp, fun k hk _ => Below.heap_alloc w.drew _ k hk⟩, ?_, by simp [Res.foot, Value.ownBlock], by simp⟩
  intro r hr
  simp only [List.mem_singleton] at hr
  subst hr
  refine ⟨hlen, .inr ⟨w.heap.size, _, _, rfl, Nat.zero_le _, heap_alloc_new w.drew _, hge, hcm, ?_, ?_⟩⟩
  · have e1 : (m + m') * inf.size + (grownCap w (m + m') c0 E - (m + m')) * inf.size = grownCap w (m + m') c0 E * inf.size := by rw [← Nat.add_mul]; congr 1; omega
    simp only [Array.size_append, List.size_toArray, size_zeroCells, hzs]
    rw [← e1, hlen]
  · simp only [Array.toList_append, List.append_assoc]
    rw [← List.append_assoc, ← hlen]
    exact List.take_left
/-- Bytes as a text. -/
theorem foldl_push (l : List UInt8) (r : ByteArray) : (l.map fun b => (b.toNat : Int)).foldl (fun r n => r.push (UInt8.ofNat n.toNat)) r = ⟨r.data ++ l.toArray⟩ := by
  induction l generalizing r with
  | nil => simp
  | cons b l ih =>
    simp only [List.map_cons, List.foldl_cons, ih]
    congr 1
    simp only [Int.toNat_natCast, UInt8.ofNat_toNat]
    apply Array.ext'
    simp [ByteArray.push]
theorem rd_toStr {T U E m : Nat} {v : Value} {l : List UInt8} (ho : o.op = .convert T U x) (hx : ev n f x = v) (hT : P.underlying T = some (.slice E)) (hU : P.underlying U = some .string) (hE : P.underlying E = some (.int .u8)) (hs : Sl w v 1 m (bys l)) :
    Rd P n f o w (.string ⟨l.toArray⟩) := by
  obtain ⟨A, c, rfl, hc1, hc2, hl, hA⟩ := hs
  rw [bys_length, Nat.mul_one] at hl
  subst hl
  have key : (Conv.bytesToString (.slice A l.length c)).run P w = .ok (.string ⟨l.toArray⟩) w := by
    rcases hA with hA | ⟨g, b, rfl, hA⟩
    · have h0 : l = [] := by cases l with
        | nil => rfl
        | cons => simp [bys] at hA
      subst h0
      cases A with
      | none => simp [Conv.bytesToString, Sem.run]; rfl
      | some a => simp [Conv.bytesToString, loadCells, loadCellsFrom, Sem.run]; rfl
    · have hadd : ∀ j, (⟨g, b, none⟩ : Addr).add j = ⟨g, b + j, none⟩ := fun j => by unfold Addr.add; split <;> simp_all
      have h1 := run_loadCells_list (P := P) (w := w) ⟨g, b, none⟩ (bys l) fun j u hj => by rw [hadd]; exact hA j u hj
      rw [bys_length] at h1
      have h2 := run_bytesToString (P := P) w ⟨g, b, none⟩ l.length c (l.map fun b => (b.toNat : Int)) (by rw [h1]; simp [bys])
      rw [h2, foldl_push]
      simp
  simp [Rd, execOp, ho, hx, convert, run_underlying hT, run_underlying hU, run_underlying hE, key, Sem.run]
/-- copy into a block that is known whole. -/
theorem run_copy {T U E g off dl dc m V : Nat} {u : Value} {L ys cs : List Value} (hT : P.underlying T = some (.slice E)) (hE : (P.info? E).map (·.size) = some 1) (hs : Sl w u 1 m ys) (hg : (Go.Mo.cells g V L).at_ w) (hcs : ys.take dl = cs) (hfit : off + cs.length ≤ L.length) (h1 : ∀ a ∈ ys, a.oneCell' = true) :
    (Builtin.copy_ #[T, U] o.type #[.slice (some ⟨g, off, none⟩) dl dc, u]).run P w = .ok (goInt cs.length) (w.setRow g ⟨splice L off cs⟩) := by
  subst hcs
  obtain ⟨A, c, rfl, hc1, hc2, hl, hA⟩ := hs
  rw [Nat.mul_one] at hl
  have hlen : (ys.take dl).length = Nat.min m dl := by
    rw [List.length_take, hl]
    show min dl m = min m dl
    omega
  by_cases h0 : (ys.take dl).length = 0
  · rw [run_copy_none (P := P) w T U o.type E (some ⟨g, off, none⟩) A dl dc m c hT hE (by rw [← hlen]; exact h0)]
    rw [List.eq_nil_of_length_eq_zero h0]
    have : splice L off [] = L := by simp [splice]
    rw [this, setRow_self w g ⟨L⟩ V (0, 0) hg]
    rfl
  · rcases hA with hA | ⟨g', b, rfl, hA⟩
    · rw [hA] at h0; simp at h0
    · have hadd : ∀ j, (⟨g', b, none⟩ : Addr).add j = ⟨g', b + j, none⟩ := fun j => by unfold Addr.add; split <;> simp_all
      have hr := run_copy_row (P := P) w T U o.type E g off dl dc ⟨g', b, none⟩ m c ⟨L⟩ V (ys.take dl) hT hE hg hlen (fun j u hj => by
        rw [hadd]
        rw [List.getElem?_take] at hj
        split at hj
        · exact hA j u hj
        · cases hj) (by simpa using hfit) (fun a ha => h1 a (List.mem_of_mem_take ha))
      rw [hr]
      simp [splice, List.append_assoc]
theorem GL_copyR {T U E g off dl dc m i m0 cap : Nat} {u rv : Value} {xs xs' ys cs : List Value} (hw : Wn n ops f o) (hd : o.dst = some d) (ho : o.op = .call { callee := .builtin .copy, args := #[x, y], argTypes := #[T, U] }) (hx : ev n f x = .slice (some ⟨g, off, none⟩) dl dc) (hy : ev n f y = u)
    (hT : P.underlying T = some (.slice E)) (hE : (P.info? E).map (·.size) = some 1) (hp : Hp w0 S w H) (hi : H[i]? = some (.row E 1 rv m0 xs)) (hrv : rv = .slice (some ⟨g, 0, none⟩) m0 cap) (hs : Sl w u 1 m ys) (hcs : ys.take dl = cs) (hfit : off + cs.length ≤ xs.length) (h1 : ∀ a ∈ ys, a.oneCell' = true) (hL : splice xs off cs = xs')
    (h : ∀ w', Hp w0 S w' (H.set i (.row E 1 rv m0 xs')) → GL P n ops rest (upd f d (.int .i64 (cs.length : Int))) w' K) : GL P n ops (o :: rest) f w K := by
  obtain ⟨cur, hg, hf, hk⟩ := row_turn (hp.get i hi) hrv hfit hL
  have hr := run_copy (P := P) (o := o) (dc := dc) (U := U) (V := E) hT hE hs hg hcs hf h1
  refine GL_new (v := goInt cs.length) hw hd (by simp [execOp, ho, resolve, invoke, builtin, hx, hy, hr, Sem.run]) (h _ (hp.turnAt i hi hk))
end acts
theorem rd_conv8 {P : Program} {n : Nat} {f : Fm} {w : World} {o : Oper} {x : Operand} {S T : TypeId} (k : IntKind) {k' : IntKind} {b : UInt8} {d : TypeDesc} (ho : o.op = .convert S T x) (hx : ev n f x = .int k' (b.toNat : Int)) (hT : P.underlying T = some (.int k)) (hS : P.underlying S = some d) (hd : d ≠ .unsafePointer ∧ k ≠ .i8) :
    Rd P n f o w (.int k (b.toNat : Int)) := by
  have h := rd_conv (w := w) ho hx hT hS hd.1
  have hb := b.toNat_lt
  have e : k.wrap (b.toNat : Int) = b.toNat := by
    cases k
    · exact absurd rfl hd.2
    · exact IntWalk.i16_in _ (by omega)
    · exact IntWalk.i32_in _ (by omega)
    · exact IntWalk.i64_in _ (by omega)
    · exact IntWalk.u8_in _ (by omega)
    · exact IntWalk.u16_in _ (by omega)
    · exact IntWalk.u32_in _ (by omega)
    · exact IntWalk.u64_in _ (by omega)
  rwa [e] at h
theorem Hp.nilRow {w0 w : World} {S : List Nat} {H : List Res} (h : Hp w0 S w H) (T sz : Nat) : Hp w0 S w (.row T sz (.slice none 0 0) 0 [] :: H) :=
  h.comp (H' := [.row T sz (.slice none 0 0) 0 []]) ⟨Mod.refl _ w, by intro r hr; simp only [List.mem_singleton] at hr; subst hr; exact World.ownsRow_nil w 0 T sz, by simp [Res.foot, Value.ownBlock], by simp⟩
/-- What is owned, reads as it is written otherwise. -/
theorem Hp.cast {w0 w : World} {S : List Nat} {H H' : List Res} (h : Hp w0 S w H) (e : H = H') : Hp w0 S w H' := e ▸ h
theorem Sl.addr {w : World} {A : Option Addr} {sz m m' c : Nat} {L : List Value} (h : Sl w (.slice A m c) sz m' L) (hne : 0 < L.length) : ∃ g b, A = some ⟨g, b, none⟩ := by
  obtain ⟨A', c', he, _, _, _, hA⟩ := h
  injection he with e1 e2 e3
  subst e1
  rcases hA with hA | ⟨g, b, rfl, _⟩
  · rw [hA] at hne; simp at hne
  · exact ⟨g, b, rfl⟩
theorem Sl.get {w : World} {g b sz m m' c : Nat} {L : List Value} (h : Sl w (.slice (some ⟨g, b, none⟩) m c) sz m' L) (j : Nat) (u : Value) (hu : L[j]? = some u) : w.cell? ⟨g, b + j, none⟩ = some u := by
  obtain ⟨A', c', he, _, _, _, hA⟩ := h
  injection he with e1 e2 e3
  subst e1
  rcases hA with hA | ⟨g', b', e, hA⟩
  · rw [hA] at hu; simp at hu
  · injection e with e
    injection e with e1 e2
    subst e1 e2
    exact hA j u hu
theorem Sl.byte {w : World} {g b m m' c : Nat} {l : List UInt8} (h : Sl w (.slice (some ⟨g, b, none⟩) m c) 1 m' (bys l)) (j : Nat) (hj : j < m') : w.cell? ⟨g, b + j * 1, none⟩ = some (.int .u8 ((l.getD j 0).toNat : Int)) := by
  have hl := h.len
  rw [bys_length, Nat.mul_one] at hl
  rw [Nat.mul_one]
  exact h.get j _ (bys_getD l j (by omega))
theorem Sl.blen {w : World} {v : Value} {m : Nat} {l : List UInt8} (h : Sl w v 1 m (bys l)) : l.length = m := by
  have hl := h.len
  rwa [bys_length, Nat.mul_one] at hl
theorem Sl.cap {w : World} {A : Option Addr} {sz m m' c : Nat} {L : List Value} (h : Sl w (.slice A m c) sz m' L) : m ≤ c ∧ m = m' := by
  obtain ⟨A', c', he, h1, _, _, _⟩ := h
  injection he with e1 e2 e3
  omega
theorem Sl.cutB {w : World} {A : Option Addr} {n c : Nat} {l : List UInt8} (h : Sl w (.slice A n c) 1 n (bys l)) (lo hi : Nat) (h1 : lo ≤ hi) (h2 : hi ≤ n) :
    Sl w (.slice (if c = lo then A else A.map (·.add (lo * 1))) (hi - lo) (c - lo)) 1 (hi - lo) (bys ((l.drop lo).take (hi - lo))) := by
  have := h.cut lo hi h1 h2
  simpa only [bys_drop, bys_take, Nat.mul_one] using this
theorem Sl.subB {w : World} {A : Option Addr} {n c : Nat} {l : List UInt8} (h : Sl w (.slice A n c) 1 n (bys l)) (lo hi : Nat) (h1 : lo ≤ hi) (h2 : hi ≤ n) :
    ∃ A2 c2, (if c = lo then A else A.map (·.add (lo * 1))) = A2 ∧ c - lo = c2 ∧ Sl w (.slice A2 (hi - lo) c2) 1 (hi - lo) (bys ((l.drop lo).take (hi - lo))) :=
  ⟨_, _, rfl, rfl, h.cutB lo hi h1 h2⟩
theorem row_shape {w : World} {T sz m : Nat} {v : Value} {xs : List Value} (h : (Res.row T sz v m xs).at_ w) : ∃ A c, v = .slice A m c := by
  rcases h.2 with ⟨rfl, rfl⟩ | ⟨g, cap, cur, rfl, _⟩
  · exact ⟨none, 0, rfl⟩
  · exact ⟨_, cap, rfl⟩
theorem row_addr {w : World} {T sz m : Nat} {v : Value} {xs : List Value} (h : (Res.row T sz v m xs).at_ w) (hm : 0 < m) : ∃ g c, v = .slice (some ⟨g, 0, none⟩) m c ∧ m ≤ c := by
  rcases h.2 with ⟨rfl, rfl⟩ | ⟨g, cap, cur, rfl, _, _, hn, _⟩
  · exact absurd hm (by omega)
  · exact ⟨g, cap, rfl, hn⟩
theorem row_len {w : World} {T sz m : Nat} {v : Value} {xs : List Value} (h : (Res.row T sz v m xs).at_ w) : xs.length = m * sz := h.1
theorem sl_shape {w : World} {sz m : Nat} {v : Value} {L : List Value} (h : Sl w v sz m L) : ∃ A c, v = .slice A m c := by
  obtain ⟨A, c, rfl, _⟩ := h
  exact ⟨A, c, rfl⟩
section more
variable {P : Program} {n : Nat} {ops : Array Oper} {f : Fm} {w w0 : World} {S : List Nat} {H : List Res} {K : KP} {o : Oper} {rest : List Oper} {d : Nat} {x y : Operand}
theorem rd_sliceR {T E : TypeId} {g b m c lo hi sz : Nat} {xl xh : Option Operand} (ho : o.op = .slice T x xl xh none) (hx : ev n f x = .slice (some ⟨g, b, none⟩) m c) (hT : P.underlying T = some (.slice E)) (hs : (P.info? E).map (·.size) = some sz)
    (hl : (xl.map (ev n f) = none ∧ lo = 0) ∨ ∃ k i, xl.map (ev n f) = some (.int k i) ∧ i = (lo : Int)) (hh : (xh.map (ev n f) = none ∧ hi = m) ∨ ∃ k i, xh.map (ev n f) = some (.int k i) ∧ i = (hi : Int)) (h1 : lo ≤ hi) (h2 : hi ≤ c) (off : Nat) (he : (if c = lo then b else b + lo * sz) = off) :
    Rd P n f o w (.slice (some ⟨g, off, none⟩) (hi - lo) (c - lo)) := by
  have h := rd_sliceS (w := w) ho hx hT hs hl hh h1 h2
  have e : (if c = lo then some (⟨g, b, none⟩ : Addr) else (some (⟨g, b, none⟩ : Addr)).map (·.add (lo * sz))) = some ⟨g, off, none⟩ := by
    subst he
    split
    · rfl
    · simp only [Option.map_some]
      congr 1
      unfold Addr.add
      split <;> simp_all
  rwa [e] at h
theorem strCells_bys (s : ByteArray) : strCells s = bys s.data.toList := by simp [strCells, bys]
theorem Hp.grownRow {E sz k cap : Nat} {z : Value} {xs ys : List Value} (hl : (xs ++ ys).length = k * sz) (hge : k ≤ cap) (hcm : cap ≤ maxLen) (hzs : z.cells.size = sz) :
    Hp w [] (w.drew.alloc (.cells (xs.toArray ++ ys.toArray ++ Builtin.zeroCells z.cells (cap - k)) E)) [.row E sz (.slice (some ⟨w.heap.size, 0, none⟩) k cap) k (xs ++ ys)] := by
  refine ⟨⟨rfl, rfl, rfl, by simp, fun k hk _ => Below.heap_alloc w.drew _ k hk⟩, ?_, by simp [Res.foot, Value.ownBlock], by simp⟩
  intro r hr
  simp only [List.mem_singleton] at hr
  subst hr
  refine ⟨hl, .inr ⟨w.heap.size, _, _, rfl, Nat.zero_le _, heap_alloc_new w.drew _, hge, hcm, ?_, ?_⟩⟩
  · have e1 : k * sz + (cap - k) * sz = cap * sz := by rw [← Nat.add_mul]; congr 1; omega
    simp only [Array.size_append, List.size_toArray, size_zeroCells, hzs]
    rw [← e1, ← hl, List.length_append]
  · simp only [Array.toList_append, List.append_assoc]
    rw [← List.append_assoc, ← hl]
    exact List.take_left
theorem Hp.weakenS {w' : World} {S' : List Nat} {H' : List Res} (h : Hp w [] w' H') : Hp w S' w' H' :=
  ⟨h.mod.weaken (by simp), h.own, fun r hr g hg => (by rcases h.new r hr g hg with h1 | h1; exact .inl h1; cases h1), h.nd⟩
theorem strCells_arr (s : ByteArray) : (s.data.map fun b => Value.int .u8 b.toNat) = (bys s.data.toList).toArray := by
  apply Array.ext'
  simp [bys]
/-- append to an owned row of bytes, of a text. -/
theorem GL_appendS {T U E i m : Nat} {v : Value} {l : List UInt8} {s : ByteArray} (hw : Wn n ops f o) (hd : o.dst = some d) (ho : o.op = .call { callee := .builtin .append, args := #[x, y], argTypes := #[T, U] }) (hx : ev n f x = v) (hy : ev n f y = .string s)
    (hT : P.underlying T = some (.slice E)) (hU : P.underlying U = some .string) (hE : (P.info? E).map (fun i => (i.zero, i.size, i.bytes)) = some (some (.int .u8 0), 1, 1)) (hp : Hp w0 S w H) (hi : H[i]? = some (.row E 1 v m (bys l))) (hm : m + s.size ≤ 140737488355328)
    (h : ∀ v' w', Hp w0 S w' (H.set i (.row E 1 v' (m + s.size) (bys (l ++ s.data.toList)))) → GL P n ops rest (upd f d v') w' K) : GL P n ops (o :: rest) f w K := by
  obtain ⟨inf, hinf, hz0, hz1, hz2⟩ := info_parts hE
  have hown : w.ownsRow 0 E 1 v m (bys l) := hp.get i hi
  have hxl : (bys l).length = m := by simpa using hown.1
  have hsl : (bys s.data.toList).length = s.size := by rw [bys_length]; rfl
  have hlen : (bys l ++ bys s.data.toList).length = (m + s.size) * 1 := by rw [List.length_append, hxl, hsl, Nat.mul_one]
  have h63 : m + s.size ≤ maxLen := by simp only [maxLen]; omega
  have key : ∃ v' w', (Builtin.append_ #[T, U] o.type #[v, .string s]).run P w = .ok v' w' ∧ Hp w v.ownBlock.toList w' [.row E 1 v' (m + s.size) (bys (l ++ s.data.toList))] := by
    rw [bys_append]
    by_cases h0 : s.size = 0
    · obtain ⟨A', c', rfl⟩ := row_shape (hp.get i hi)
      have hle : m ≤ c' := by
        rcases hown.2 with ⟨e, rfl⟩ | ⟨g, cap, cur, e, _, _, hn, _⟩
        · omega
        · injection e with _ _ e; omega
      have hn : bys s.data.toList = [] := List.eq_nil_of_length_eq_zero (by rw [hsl]; exact h0)
      have hf := run_firstCells_string (P := P) w 1 s
      rw [h0, strCells_bys, hn] at hf
      refine ⟨.slice A' m c', w, ?_, ?_⟩
      · cases A' <;> simp [Builtin.append_, run_underlying hT, run_underlying hU, sizeOf, typeInfo, hinf, hz1, Builtin.lenOf, h0, hle, hf, strCells_arr, hn, storeCells]
      · rw [hn, List.append_nil, h0, Nat.add_zero]
        exact ⟨Mod.refl _ w, by simpa [Res.at_] using hown, by intro r hr g hg; simp only [List.mem_singleton] at hr; subst hr; exact .inr (by simpa [Res.foot] using hg), by simp⟩
    · rcases hown.2 with ⟨rfl, rfl⟩ | ⟨g, cap, cur, rfl, hbg, hg, hnc, hcm, hcs, htake⟩
      · have hx0 : bys l = [] := List.eq_nil_of_length_eq_zero hxl
        have hr := run_append_nil_string (P := P) w T U o.type E inf (.int .u8 0) hT hU hinf hz0 s (by omega) (by omega) (by rw [hz2]; omega)
        rw [strCells_arr] at hr
        have hg := Hp.grownRow (w := w) (E := E) (sz := 1) (k := 0 + s.size) (cap := grownCap w s.size 0 E) (z := .int .u8 0) hlen (by have := grownCap_ge w s.size 0 E; omega) (grownCap_le_maxLen w s.size 0 E (by omega)) rfl
        rw [hx0] at hg ⊢
        simp only [Nat.zero_add, Array.empty_append, List.nil_append] at hg ⊢
        exact ⟨_, _, hr, hg.weakenS⟩
      · have hcs' : cur.size = cap := by simpa using hcs
        by_cases hroom : m + s.size ≤ cap
        · have hr := run_append_room_string (P := P) w T U o.type E inf hT hU hinf hz1 g m cap cur hg s hroom (by omega)
          refine ⟨_, _, hr, Mod.setRow w g _, ?_, by simp [Res.foot, Value.ownBlock], by simp⟩
          intro r hr
          simp only [List.mem_singleton] at hr
          subst hr
          refine ⟨hlen, .inr ⟨g, cap, _, rfl, hbg, setRow_heap w g cur _ E _ hg, hroom, hcm, ?_, ?_⟩⟩
          · have e3 : (strCells s).length = s.size := strCells_length s
            simp only [List.size_toArray, List.length_append, List.length_take, List.length_drop, Array.length_toList, e3]
            omega
          · have ht' : cur.toList.take m = bys l := by simpa using htake
            rw [ht', ← hlen]
            exact List.take_left
        · have holds : ∀ j u, (bys l)[j]? = some u → w.cell? ((⟨g, 0, none⟩ : Addr).add j) = some u := World.ownsRow.cells hown (g := g) rfl
          have hr := run_append_grow_string (P := P) w T U o.type E inf (.int .u8 0) hT hU hinf hz0 ⟨g, 0, none⟩ m cap (bys l) (by rw [hz1]; simpa using hxl) holds s (by omega) (by omega) (by rw [hz2]; exact growslice_fits (by omega) (by omega))
          have hg := Hp.grownRow (w := w) (E := E) (sz := 1) (k := m + s.size) (cap := grownCap w (m + s.size) cap E) (z := .int .u8 0) hlen (grownCap_ge w _ cap E) (grownCap_le_maxLen w _ cap E h63) rfl
          exact ⟨_, _, hr, hg.weakenS⟩
  obtain ⟨v', w', hr, hk⟩ := key
  refine GL_new (w' := w') (v := v') hw hd ?_ (h v' w' (hp.turnAt i hi hk))
  simp [execOp, ho, resolve, invoke, builtin, hx, hy, hr, Sem.run]
theorem zeroCells_bys (k : Nat) : Builtin.zeroCells (Value.int .u8 0).cells k = (bys (List.replicate k 0)).toArray := by
  apply Array.ext
  · simp [Builtin.zeroCells, Value.cells, bys]
  · intro i h1 h2
    simp [Builtin.zeroCells, Value.cells, bys, Nat.mod_one]
theorem run_append_room_zeros (t u ty e : TypeId) (i : TypeInfo) (kn : IntKind) (ht : P.underlying t = some (.slice e)) (hu : P.underlying u = some (.int kn)) (hi : P.info? e = some i) (hz : i.zero = some (.int .u8 0)) (hs1 : i.size = 1) (hb1 : i.bytes = 1)
    (g sLen sCap k : Nat) (cur : Array Value) (hg : w.heap[g]? = some (.cells cur e (0, 0))) (h0 : 0 < k) (hk : k ≤ 140737488355328) (hroom : sLen + k ≤ sCap) (hfit : sLen + k ≤ cur.size) :
    (Builtin.append_ #[t, u] ty #[.slice (some ⟨g, 0, none⟩) sLen sCap, .int .i64 (k : Int)]).run P w =
      .ok (.slice (some ⟨g, 0, none⟩) (sLen + k) sCap) (w.setRow g (cur.toList.take sLen ++ bys (List.replicate k 0) ++ cur.toList.drop (sLen + k)).toArray) := by
  have hw : IntKind.i64.wrap (k : Int) = k := by rw [IntKind.wrap_i64]; omega
  have h1 : ¬ ((k : Int) < 0) := by omega
  have h2 : ¬ (281474976710656 < (k : Int)) := by omega
  have h3 : ¬ k = 0 := by omega
  have hst := run_storeCells_at (P := P) g sLen e (bys (List.replicate k 0)) 0 cur w hg (by rw [bys_length, List.length_replicate]; simpa using hfit) (bys_one _)
  simp only [Nat.add_zero, bys_length, List.length_replicate] at hst
  simp [Builtin.append_, run_underlying ht, run_underlying hu, sizeOf, typeInfo, zeroValue, hi, hz, hs1, hb1, asInt, asIntOf, hw, h1, h2, h3, hroom, zeroCells_bys, Addr.add_lit, hst]
theorem GL_appendZ {T U E i m k : Nat} {kn : IntKind} {v : Value} {l : List UInt8} (hw : Wn n ops f o) (hd : o.dst = some d) (ho : o.op = .call { callee := .builtin .append, args := #[x, y], argTypes := #[T, U] }) (hx : ev n f x = v) (hy : ev n f y = .int .i64 (k : Int))
    (hT : P.underlying T = some (.slice E)) (hU : P.underlying U = some (.int kn)) (hE : (P.info? E).map (fun i => (i.zero, i.size, i.bytes)) = some (some (.int .u8 0), 1, 1)) (hp : Hp w0 S w H) (hi : H[i]? = some (.row E 1 v m (bys l))) (h0 : 0 < k) (hm : m + k ≤ 140737488355328)
    (h : ∀ v' w', Hp w0 S w' (H.set i (.row E 1 v' (m + k) (bys (l ++ List.replicate k 0)))) → GL P n ops rest (upd f d v') w' K) : GL P n ops (o :: rest) f w K := by
  obtain ⟨inf, hinf, hz0, hz1, hz2⟩ := info_parts hE
  have hown : w.ownsRow 0 E 1 v m (bys l) := hp.get i hi
  have hxl : (bys l).length = m := by simpa using hown.1
  have hsl : (bys (List.replicate k 0)).length = k := by rw [bys_length, List.length_replicate]
  have hlen : (bys l ++ bys (List.replicate k 0)).length = (m + k) * 1 := by rw [List.length_append, hxl, hsl, Nat.mul_one]
  have h63 : m + k ≤ maxLen := by simp only [maxLen]; omega
  have key : ∃ v' w', (Builtin.append_ #[T, U] o.type #[v, .int .i64 (k : Int)]).run P w = .ok v' w' ∧ Hp w v.ownBlock.toList w' [.row E 1 v' (m + k) (bys (l ++ List.replicate k 0))] := by
    rw [bys_append]
    rcases hown.2 with ⟨rfl, rfl⟩ | ⟨g, cap, cur, rfl, hbg, hg, hnc, hcm, hcs, htake⟩
    · have hx0 : bys l = [] := List.eq_nil_of_length_eq_zero hxl
      have hr := run_append_nil_zeros (P := P) w T U o.type E inf (.int .u8 0) .i64 kn hT hU hinf hz0 k h0 (by omega) (by omega) (by rw [hz2]; omega)
      have hg := Hp.grownRow (w := w) (E := E) (sz := 1) (k := 0 + k) (cap := grownCap w k 0 E) (z := .int .u8 0) hlen (by have := grownCap_ge w k 0 E; omega) (grownCap_le_maxLen w k 0 E (by omega)) rfl
      rw [zeroCells_bys k] at hr
      rw [hx0] at hg ⊢
      simp only [Nat.zero_add, Array.empty_append, List.nil_append] at hg ⊢
      exact ⟨_, _, hr, hg.weakenS⟩
    · have hcs' : cur.size = cap := by simpa using hcs
      by_cases hroom : m + k ≤ cap
      · have hr := run_append_room_zeros (P := P) (w := w) T U o.type E inf kn hT hU hinf hz0 hz1 hz2 g m cap k cur hg h0 (by omega) hroom (by omega)
        refine ⟨_, _, hr, Mod.setRow w g _, ?_, by simp [Res.foot, Value.ownBlock], by simp⟩
        intro r hr
        simp only [List.mem_singleton] at hr
        subst hr
        refine ⟨hlen, .inr ⟨g, cap, _, rfl, hbg, setRow_heap w g cur _ E _ hg, hroom, hcm, ?_, ?_⟩⟩
        · simp only [List.size_toArray, List.length_append, List.length_take, List.length_drop, Array.length_toList, hsl]
          omega
        · have ht' : cur.toList.take m = bys l := by simpa using htake
          rw [ht', ← hlen]
          exact List.take_left
      · have holds : ∀ j u, (bys l)[j]? = some u → w.cell? ((⟨g, 0, none⟩ : Addr).add j) = some u := World.ownsRow.cells hown (g := g) rfl
        have hfo := run_firstCells_some (P := P) w.drew inf.size m ⟨g, 0, none⟩ m cap (bys l) (by rw [hz1]; simpa using hxl) (by simpa using holds)
        have hr := run_append_grow_zeros (P := P) w T U o.type E inf (.int .u8 0) .i64 kn hT hU hinf hz0 (some ⟨g, 0, none⟩) m cap (bys l) hfo k h0 (by omega) (by omega) (by omega) (by rw [hz2]; omega) (by rw [hz2]; exact growslice_fits (by omega) (by omega))
        rw [zeroCells_bys k] at hr
        have hg := Hp.grownRow (w := w) (E := E) (sz := 1) (k := m + k) (cap := grownCap w (m + k) cap E) (z := .int .u8 0) hlen (grownCap_ge w _ cap E) (grownCap_le_maxLen w _ cap E h63) rfl
        exact ⟨_, _, hr, hg.weakenS⟩
  obtain ⟨v', w', hr, hk⟩ := key
  refine GL_new (w' := w') (v := v') hw hd ?_ (h v' w' (hp.turnAt i hi hk))
  simp [execOp, ho, resolve, invoke, builtin, hx, hy, hr, Sem.run]
/-- copy of a text's bytes into a row of bytes. -/
theorem GL_copyS {T U E g off dl dc i m0 cap : Nat} {rv : Value} {s : ByteArray} {xs xs' cs : List Value} (hw : Wn n ops f o) (hd : o.dst = some d) (ho : o.op = .call { callee := .builtin .copy, args := #[x, y], argTypes := #[T, U] }) (hx : ev n f x = .slice (some ⟨g, off, none⟩) dl dc) (hy : ev n f y = .string s)
    (hT : P.underlying T = some (.slice E)) (hE : (P.info? E).map (·.size) = some 1) (hp : Hp w0 S w H) (hi : H[i]? = some (.row E 1 rv m0 xs)) (hrv : rv = .slice (some ⟨g, 0, none⟩) m0 cap) (hsz : s.size ≤ dl) (hcs : bys s.data.toList = cs) (hfit : off + cs.length ≤ xs.length) (hL : splice xs off cs = xs')
    (h : ∀ w', Hp w0 S w' (H.set i (.row E 1 rv m0 xs')) → GL P n ops rest (upd f d (.int .i64 (s.size : Int))) w' K) : GL P n ops (o :: rest) f w K := by
  subst hcs
  obtain ⟨cur, hg, hf, hk⟩ := row_turn (hp.get i hi) hrv hfit hL
  obtain ⟨inf, hinf, hz1⟩ := Option.map_eq_some_iff.1 hE
  have hst := run_storeCells_at (P := P) g off E (bys s.data.toList) 0 ⟨cur⟩ w hg (by simpa using hf) (bys_one _)
  have hfc := run_firstCells_string (P := P) w 1 s
  refine GL_new (v := goInt s.size) hw hd ?_ (h _ (hp.turnAt i hi hk))
  have hmin : Nat.min s.size dl = s.size := Nat.min_eq_left hsz
  rw [strCells_bys] at hfc
  simp only [Nat.add_zero] at hst
  simp [execOp, ho, resolve, invoke, builtin, hx, hy, Builtin.copy_, run_underlying hT, sizeOf, typeInfo, hinf, hz1, Builtin.lenOf, hmin, hfc, hst, splice, List.append_assoc, Sem.run]
end more
/-- Where the fields of the struct T lie, and how many cells each takes. -/
def PlacesAt (P : Program) (T : Nat) (pl : List (Nat × Nat)) : Prop := ∃ fs, P.underlying T = some (.struct fs) ∧ fs.toList.mapM (fun f => (P.info? f.type).map fun i => (f.offset, i.size)) = some pl
section lits
variable {P : Program} {n : Nat} {f : Fm} {w : World} {o : Oper}
theorem run_places : ∀ (fs : List Field) (pl : List (Nat × Nat)), fs.mapM (fun f => (P.info? f.type).map fun i => (f.offset, i.size)) = some pl → (fs.mapM fun f => (do pure (f.offset, ← sizeOf f.type) : Sem (Nat × Nat))).run P w = .ok pl w
  | [], pl, h => by simp at h; subst h; simp [Sem.run]
  | f :: fs, pl, h => by
    simp only [List.mapM_cons, Option.bind_eq_bind, Option.bind_eq_some_iff, Option.map_eq_some_iff, Option.pure_def, Option.some.injEq] at h
    obtain ⟨a, ⟨i, hi, rfl⟩, b, hb, rfl⟩ := h
    have ih := run_places fs b hb
    have hs : (sizeOf f.type).run P w = .ok i.size w := run_sizeOf (by rw [hi]; rfl)
    simp only [List.mapM_cons, Sem.run_bind, hs, ih, Result.andThen_ok, Sem.run_pure]
theorem rd_buildS {T : TypeId} {ps : Array (Nat × Operand)} {z : Value} {pl : List (Nat × Nat)} {L : List Value} (ho : o.op = .build T ps) (hz : (P.info? T).bind (·.zero) = some z) (hpl : PlacesAt P T pl)
    (hf : Instr.fill (pl.toArray[·]?) z.cells (ps.map fun (i, x) => (i, ev n f x)).toList = some ⟨L⟩) : Rd P n f o w (.agg ⟨L⟩) := by
  obtain ⟨fs, hT, hm⟩ := hpl
  have h1 := run_places (P := P) (w := w) fs.toList pl hm
  have h2 : (fs.mapM fun f => (do pure (f.offset, ← sizeOf f.type) : Sem (Nat × Nat))).run P w = .ok pl.toArray w := by
    rw [Array.mapM_eq_mapM_toList]
    simp only [map_eq_pure_bind, Sem.run_bind, h1, Result.andThen_ok]
    rfl
  have h3 : (Instr.build T (ps.map fun (i, x) => (i, ev n f x))).run P w = .ok (.agg ⟨L⟩) w := by
    unfold Instr.build
    simp only [Sem.run_bind, run_zero hz, Result.andThen_ok, run_underlying hT, h2, hf]
    rfl
  simp only [Rd, execOp, ho]
  rw [Sem.run_bind, h3]
  rfl
theorem rd_buildA {T E len sz : Nat} {ps : Array (Nat × Operand)} {z : Value} {L : List Value} (ho : o.op = .build T ps) (hz : (P.info? T).bind (·.zero) = some z) (hT : P.underlying T = some (.array len E)) (hs : (P.info? E).map (·.size) = some sz)
    (hf : Instr.fill (fun i => some (i * sz, sz)) z.cells (ps.map fun (i, x) => (i, ev n f x)).toList = some ⟨L⟩) : Rd P n f o w (.agg ⟨L⟩) := by
  have h3 : (Instr.build T (ps.map fun (i, x) => (i, ev n f x))).run P w = .ok (.agg ⟨L⟩) w := by
    unfold Instr.build
    simp only [Sem.run_bind, run_zero hz, Result.andThen_ok, run_underlying hT, run_sizeOf hs, hf]
    rfl
  simp only [Rd, execOp, ho]
  rw [Sem.run_bind, h3]
  rfl
/-- Parts that are laid into what is nought, one behind the other. -/
theorem splice_set {α : Type} (L : List α) (i : Nat) (c : α) (vs : List α) (h : i + (vs.length + 1) ≤ L.length) : splice (L.set i c) (i + 1) vs = splice L i (c :: vs) := by
  simp only [splice, List.length_cons]
  have e1 : (L.set i c).take (i + 1) = L.take i ++ [c] := by
    rw [List.take_succ_eq_append_getElem (by rw [List.length_set]; omega), List.take_set_of_le (Nat.le_refl _), List.getElem_set_self]
  have e2 : (L.set i c).drop (i + 1 + vs.length) = L.drop (i + (vs.length + 1)) := by
    rw [List.drop_set_of_lt (by omega)]; congr 1; omega
  rw [e1, e2]
  simp
theorem foldl_splice (off : Nat) : ∀ (vs : List Value) (k : Nat) (cells : Array Value), off + k + vs.length ≤ cells.size → ((vs.zipIdx k).foldl (fun cs (x : Value × Nat) => cs.setIfInBounds (off + x.2) x.1) cells).toList = splice cells.toList (off + k) vs
  | [], k, cells, _ => by simp [splice]
  | c :: vs, k, cells, h => by
    simp only [List.length_cons] at h
    rw [List.zipIdx_cons, List.foldl_cons, foldl_splice off vs (k + 1) _ (by rw [Array.size_setIfInBounds]; omega), Array.toList_setIfInBounds]
    exact splice_set cells.toList (off + k) c vs (by rw [Array.length_toList]; omega)
theorem fill_more {place : Nat → Option (Nat × Nat)} {i : Nat} {v : Value} {L L' vs R : List Value} {rest : List (Nat × Value)} (off size : Nat) (hp : place i = some (off, size)) (hv : v.cells = ⟨vs⟩) (hl : vs.length = size) (hfit : off + size ≤ L.length) (hL : splice L off vs = L')
    (h : Instr.fill place ⟨L'⟩ rest = some ⟨R⟩) : Instr.fill place ⟨L⟩ ((i, v) :: rest) = some ⟨R⟩ := by
  subst hL
  have hs : (⟨vs⟩ : Array Value).size = size := hl
  have hL : (⟨L⟩ : Array Value).size = L.length := rfl
  have e : (⟨vs⟩ : Array Value).zipIdx.foldl (fun (cs : Array Value) (x : Value × Nat) => cs.setIfInBounds (off + x.2) x.1) (⟨L⟩ : Array Value) = ⟨splice L off vs⟩ := by
    apply Array.toList_inj.1
    have := foldl_splice off vs 0 ⟨L⟩ (by rw [hL]; omega)
    rw [← Array.foldl_toList, Array.toList_zipIdx]
    exact this
  unfold Instr.fill
  rw [hp]
  simp only [hv]
  split
  · rename_i hc
    simp only [Bool.or_eq_true, decide_eq_true_eq] at hc
    omega
  · exact (congrArg (fun z => Instr.fill place z rest) e).trans h
theorem fill_done {place : Nat → Option (Nat × Nat)} {L R : List Value} (h : L = R) : Instr.fill place ⟨L⟩ [] = some ⟨R⟩ := by subst h; rfl
theorem rd_buildF {T : TypeId} {ps : Array (Nat × Operand)} {z : Value} {pl : List (Nat × Nat)} {L : List Value} {l : List (Nat × Value)} (ho : o.op = .build T ps) (hz : (P.info? T).bind (·.zero) = some z) (hpl : PlacesAt P T pl) (hl : ps.toList.map (fun (i, x) => (i, ev n f x)) = l)
    (hf : Instr.fill (pl.toArray[·]?) z.cells l = some ⟨L⟩) : Rd P n f o w (.agg ⟨L⟩) :=
  rd_buildS ho hz hpl (by rw [Array.toList_map, hl]; exact hf)
end lits
section results
variable {P : Program} {n : Nat} {fn : Func} {f : Fm} {w : World}
/-- What stands in a result's variable. -/
def Rv (P : Program) (n : Nat) (f : Fm) (w : World) : ResultVar → Value → Prop
  | .tmp t, v => Nat.blt t n = true ∧ f t = v
  | .cell a T, v => Nat.blt a n = true ∧ ∃ g off, f a = .pointer (some ⟨g, off, none⟩) ∧ (loadVar T ⟨g, off, none⟩).run P w = .ok v w
theorem rv_tmp {t : Nat} {v : Value} (h : Nat.blt t n = true) (hf : f t = v) : Rv P n f w (.tmp t) v := ⟨h, hf⟩
theorem rv_cell {a T g sz : Nat} {d : TypeDesc} {L : List Value} (h : Nat.blt a n = true) (hf : f a = .pointer (some ⟨g, 0, none⟩)) (hT : P.underlying T = some d) (hd : plainT d = false) (hs : (P.info? T).map (·.size) = some sz) (hl : L.length = sz) {U : Nat} (hg : (Go.Mo.cells g U L).at_ w) :
    Rv P n f w (.cell a T) (.agg ⟨L⟩) := by
  refine ⟨h, g, 0, hf, ?_⟩
  have hadd : ∀ j, (⟨g, 0, none⟩ : Addr).add j = ⟨g, j, none⟩ := fun j => by unfold Addr.add; split <;> simp_all
  have h1 := run_loadCells_list (P := P) (w := w) ⟨g, 0, none⟩ L fun j u hj => by rw [hadd, cell_of_cells hg]; exact hj
  unfold loadVar
  subst hl
  cases d <;> simp [plainT] at hd <;> simp [isAgg, run_underlying hT, run_sizeOf hs, h1, Sem.run]
def resSem (tmps : Array Value) : ResultVar → Sem Value
  | .tmp t => pure (tmps.getD t undef)
  | .cell a t => do loadVar t (← asAddr (tmps.getD a undef))
theorem results_eq (tmps : Array Value) : results fn tmps = (do
    let vs ← fn.results.mapM (resSem tmps)
    pure (if h : vs.size = 1 then vs[0] else .tuple vs)) := rfl
theorem run_rv {r : ResultVar} {v : Value} (h : Rv P n f w r v) : (resSem (fr n f).tmps r).run P w = .ok v w := by
  cases r with
  | tmp t =>
    obtain ⟨h1, h2⟩ := h
    have h3 : t < n := Nat.le_of_ble_eq_true h1
    simp [resSem, fr, Array.getD, h3, h2, Sem.run]
  | cell a T =>
    obtain ⟨h1, g, off, h2, h4⟩ := h
    have h3 : a < n := Nat.le_of_ble_eq_true h1
    simp [resSem, fr, Array.getD, h3, h2, asAddr, Sem.run, h4]
theorem res0 (h : fn.results = #[]) : resultsOf P n fn f w (.tuple #[]) := by simp [resultsOf, results, h, Sem.run]
theorem res1 {a : ResultVar} {u : Value} (h : fn.results = #[a]) (h1 : Rv P n f w a u) : resultsOf P n fn f w u := by
  have e1 := run_rv h1
  simp only [resultsOf, results_eq, h]
  simp [e1, Sem.run]
theorem res2 {a b : ResultVar} {u v : Value} (h : fn.results = #[a, b]) (h1 : Rv P n f w a u) (h2 : Rv P n f w b v) : resultsOf P n fn f w (.tuple #[u, v]) := by
  have e1 := run_rv h1
  have e2 := run_rv h2
  simp only [resultsOf, results_eq, h]
  simp [e1, e2, Sem.run]
end results
section small
variable {P : Program} {n : Nat} {f : Fm} {w : World} {o : Oper} {x y : Operand} {T : TypeId}
theorem u32_id {p : Nat} (h : p < 4294967296) : IntKind.u32.wrap (p : Int) = p := IntWalk.u32_in _ (by omega)
theorem bv32 (p : Nat) : BitVec.ofInt 32 (p : Int) = BitVec.ofNat 32 p := BitVec.ofInt_natCast ..
theorem bo_xor32 (a : BitVec 32) (m : Nat) : Bo P .xor T x y (.int .u32 (a.toNat : Int)) (.int .u32 (m : Int)) w (.int .u32 ((a ^^^ BitVec.ofNat 32 m).toNat : Int)) := by
  have h : Bo P .xor T x y (.int .u32 (a.toNat : Int)) (.int .u32 (m : Int)) w _ := bo_xor
  have e : IntKind.u32.bits = 32 := rfl
  rw [e, bv32, bv32, BitVec.ofNat_toNat, BitVec.setWidth_eq, u32_id (BitVec.isLt _)] at h
  exact h
theorem bo_and32 (a : BitVec 32) (m : Nat) : Bo P .and T x y (.int .u32 (a.toNat : Int)) (.int .u32 (m : Int)) w (.int .u32 ((a &&& BitVec.ofNat 32 m).toNat : Int)) := by
  have h : Bo P .and T x y (.int .u32 (a.toNat : Int)) (.int .u32 (m : Int)) w _ := bo_and
  have e : IntKind.u32.bits = 32 := rfl
  rw [e, bv32, bv32, BitVec.ofNat_toNat, BitVec.setWidth_eq, u32_id (BitVec.isLt _)] at h
  exact h
theorem bo_or32 (a : BitVec 32) (m : Nat) : Bo P .or T x y (.int .u32 (a.toNat : Int)) (.int .u32 (m : Int)) w (.int .u32 ((a ||| BitVec.ofNat 32 m).toNat : Int)) := by
  have h : Bo P .or T x y (.int .u32 (a.toNat : Int)) (.int .u32 (m : Int)) w _ := bo_or
  have e : IntKind.u32.bits = 32 := rfl
  rw [e, bv32, bv32, BitVec.ofNat_toNat, BitVec.setWidth_eq, u32_id (BitVec.isLt _)] at h
  exact h
theorem bo_shr32 {k' : IntKind} (a : BitVec 32) (m : Nat) (hm : m ≤ 32) : Bo P .shr T x y (.int .u32 (a.toNat : Int)) (.int k' (m : Int)) w (.int .u32 ((a >>> m).toNat : Int)) := by
  have h : Bo P .shr T x y (.int .u32 (a.toNat : Int)) (.int k' (m : Int)) w _ := bo_shr (by omega) (by omega)
  have e : min (m : Int).toNat IntKind.u32.bits = m := by show min _ 32 = _; omega
  rw [e] at h
  have e2 : ((a.toNat : Int) / 2 ^ m) = ((a >>> m).toNat : Int) := by
    rw [BitVec.toNat_ushiftRight, Nat.shiftRight_eq_div_pow, Int.natCast_ediv, Int.natCast_pow]; rfl
  rwa [e2] at h
theorem rd_compl32 {U : TypeId} (a : BitVec 32) (ho : o.op = .unOp .xor U x) (hx : ev n f x = .int .u32 (a.toNat : Int)) : Rd P n f o w (.int .u32 ((~~~ a).toNat : Int)) := by
  have e1 : IntKind.u32.signed = false := rfl
  have e2 : IntKind.u32.max = ((4294967295 : Nat) : Int) := by decide
  have e3 : IntKind.u32.bits = 32 := rfl
  have e4 : (BitVec.ofNat 32 4294967295 ^^^ a) = ~~~ a := by
    apply BitVec.eq_of_getLsbD_eq
    intro i hi
    have : (BitVec.ofNat 32 4294967295) = BitVec.allOnes 32 := by decide
    rw [this, BitVec.getLsbD_xor, BitVec.getLsbD_not, BitVec.getLsbD_allOnes]
    simp [hi]
  have h5 : (Op.intBits .xor .u32 IntKind.u32.max (a.toNat : Int)).run P w = .ok (.int .u32 ((~~~ a).toNat : Int)) w := by
    simp only [Op.intBits, Sem.run]
    rw [e2, e3, bv32, bv32, BitVec.ofNat_toNat, BitVec.setWidth_eq, e4, u32_id (BitVec.isLt _)]
    rfl
  simp [Rd, execOp, ho, hx, Op.unary, e1, h5]
theorem rd_convE {S : TypeId} {k k' : IntKind} {p q : Int} {d : TypeDesc} (ho : o.op = .convert S T x) (hx : ev n f x = .int k' p) (hT : P.underlying T = some (.int k)) (hS : P.underlying S = some d) (hd : d ≠ .unsafePointer) (he : k.wrap p = q) : Rd P n f o w (.int k q) := by
  subst he
  exact rd_conv ho hx hT hS hd
theorem rd_toArr {E k : Nat} {A : Option Addr} {m c : Nat} (ho : o.op = .sliceToArrayPointer T x) (hx : ev n f x = .slice A m c) (hT : P.underlying T = some (.array k E)) (hm : k ≤ m) : Rd P n f o w (.pointer A) := by
  simp [Rd, execOp, ho, hx, Instr.arrayAt, run_underlying hT, Sem.run, show ¬ m < k by omega]
end small
theorem Hp.swap {w0 w : World} {S : List Nat} {r r' : Res} {H : List Res} (h : Hp w0 S w (r :: H)) (hf : r'.foot = r.foot) (ha : r'.at_ w) : Hp w0 S w (r' :: H) := by
  have hnd := List.pairwise_cons.1 h.nd
  refine ⟨h.mod, fun x hx => ?_, fun x hx g hg => ?_, List.pairwise_cons.2 ⟨fun b hb g hg => hnd.1 b hb g (hf ▸ hg), hnd.2⟩⟩
  · rcases List.mem_cons.1 hx with rfl | hx
    · exact ha
    · exact h.own x (by simp [hx])
  · rcases List.mem_cons.1 hx with rfl | hx
    · exact h.new r (by simp) g (hf ▸ hg)
    · exact h.new x (by simp [hx]) g hg
end Go.Mo
