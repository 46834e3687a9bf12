/- More laws of the operations: what came to be needed later. -/
import Derived.Test.YtpagpmioopaciaaQActs
set_option linter.unusedVariables false
set_option linter.unusedSimpArgs false
namespace Go.Mo
open Go.RowKit Go.Lib
theorem bo_arrB {P : Program} {T E : TypeId} {m : Nat} {a b : List UInt8} {w : World} {x y : Operand} (hT : P.underlying T = some (.array m E)) (hE : P.underlying E = some (.int .u8)) (hs : (P.info? E).map (·.size) = some 1) (hg : P.eqGuardType P.depth T = false) (h1 : a.length = m) (h2 : b.length = m) :
    Bo P .eql T x y (.agg ⟨bys a⟩) (.agg ⟨bys b⟩) w (.bool (decide (a = b))) ∧ Bo P .neq T x y (.agg ⟨bys a⟩) (.agg ⟨bys b⟩) w (.bool (!decide (a = b))) := by
  have h := bo_arr (x := x) (y := y) (w := w) (xs := a.map fun u => (u.toNat : Int)) (ys := b.map fun u => (u.toNat : Int)) hT hE hs hg (by simpa using h1) (by simpa using h2)
  have e : ∀ l : List UInt8, (l.map fun u => (u.toNat : Int)).map (Value.int .u8) = bys l := fun l => by simp [bys, List.map_map, Function.comp_def]
  rw [e, e] at h
  have e2 : decide ((a.map fun u => (u.toNat : Int)) = b.map fun u => (u.toNat : Int)) = decide (a = b) := by
    congr 1
    refine propext ⟨fun hq => bys_inj (by rw [← e a, ← e b, hq]), fun hq => by rw [hq]⟩
  rwa [e2] at h
/-- The struct T has fields of one cell each, whole numbers of these kinds. -/
def IntsAt (P : Program) (T : Nat) (ks : List IntKind) : Prop :=
  ∃ fs : Array Field, P.underlying T = some (.struct fs) ∧ P.stoodInHeld T = false ∧ P.eqGuardType P.depth T = false ∧ fs.toList.length = ks.length ∧
    ∀ (i : Nat) (fd : Field) (k : IntKind), fs.toList[i]? = some fd → ks[i]? = some k → fd.name ≠ "_" ∧ fd.offset = i ∧ P.underlying fd.type = some (.int k) ∧ ∃ inf, P.info? fd.type = some inf
def intsB (P : Program) (T : Nat) (ks : List IntKind) : Bool :=
  match P.underlying T with
  | some (.struct fs) => !P.stoodInHeld T && !P.eqGuardType P.depth T && fs.toList.length == ks.length && (List.range ks.length).all fun i =>
      match fs.toList[i]?, ks[i]? with
      | some fd, some k => fd.name != "_" && fd.offset == i && (P.info? fd.type).isSome && (match P.underlying fd.type with | some (.int k') => decide (k' = k) | _ => false)
      | _, _ => false
  | _ => false
theorem intsAt_of {P : Program} {T : Nat} {ks : List IntKind} (h : intsB P T ks = true) : IntsAt P T ks := by
  unfold intsB at h
  split at h
  · rename_i fs hu
    simp only [Bool.and_eq_true, Bool.not_eq_true', beq_iff_eq] at h
    obtain ⟨⟨⟨h1, h2⟩, h3⟩, h4⟩ := h
    refine ⟨fs, hu, h1, h2, h3, fun i fd k hi hk => ?_⟩
    have hlt : i < ks.length := (List.getElem?_eq_some_iff.1 hk).1
    have h5 := List.all_eq_true.1 h4 i (List.mem_range.2 hlt)
    rw [hi, hk] at h5
    simp only [Bool.and_eq_true, bne_iff_ne, beq_iff_eq] at h5
    obtain ⟨⟨⟨g1, g2⟩, g3⟩, g4⟩ := h5
    refine ⟨g1, g2, ?_, Option.isSome_iff_exists.1 g3⟩
    split at g4
    · rename_i k' hk'
      rw [hk', of_decide_eq_true g4]
    · cases g4
  · cases h
theorem run_part_int {P : Program} {w : World} {t off : Nat} {k : IntKind} {cs : Array Value} {v : Value} (hu : P.underlying t = some (.int k)) (hv : cs[off]? = some v) : (part t cs off).run P w = .ok v w := by
  simp [part, isAgg, run_underlying hu, hv, Sem.run]
theorem run_eqInts {P : Program} {w : World} (xs ys : List Int) (ks : List IntKind) : ∀ (fs : List Field) (n : Nat) (cx cy : Array Value),
    (∀ (i : Nat) (fd : Field) (k : IntKind), fs[i]? = some fd → ks[n + i]? = some k → fd.name ≠ "_" ∧ fd.offset = n + i ∧ P.underlying fd.type = some (.int k) ∧ ∃ inf, P.info? fd.type = some inf) →
    n + fs.length = ks.length → xs.length = ks.length → ys.length = ks.length →
    (∀ (i : Nat) (k : IntKind) (x : Int), ks[i]? = some k → xs[i]? = some x → cx[i]? = some (Value.int k x)) → (∀ (i : Nat) (k : IntKind) (y : Int), ks[i]? = some k → ys[i]? = some y → cy[i]? = some (Value.int k y)) →
    (Op.eqFields 9999 cx cy fs).run P w = .ok (decide (xs.drop n = ys.drop n)) w
  | [], n, cx, cy, _, hn, hx, hy, _, _ => by
    simp only [Op.eqFields, Sem.run_pure]
    rw [List.drop_of_length_le (by simp at hn; omega), List.drop_of_length_le (by simp at hn; omega)]
    simp
  | fd :: fs, n, cx, cy, hf, hn, hx, hy, hcx, hcy => by
    simp only [List.length_cons] at hn
    obtain ⟨k, hk⟩ : ∃ k, ks[n]? = some k := ⟨_, List.getElem?_eq_getElem (by omega)⟩
    obtain ⟨x, hxn⟩ : ∃ x, xs[n]? = some x := ⟨_, List.getElem?_eq_getElem (by omega)⟩
    obtain ⟨y, hyn⟩ : ∃ y, ys[n]? = some y := ⟨_, List.getElem?_eq_getElem (by omega)⟩
    obtain ⟨h1, h2, h3, _⟩ := hf 0 fd k rfl hk
    have ih := run_eqInts (P := P) (w := w) xs ys ks fs (n + 1) cx cy (fun i fd' k' hi hk' => by
      have := hf (i + 1) fd' k' (by simpa using hi) (by rw [show n + (i + 1) = n + 1 + i by omega]; exact hk')
      rwa [show n + (i + 1) = n + 1 + i by omega] at this) (by omega) hx hy hcx hcy
    have px := run_part_int (P := P) (w := w) (off := fd.offset) h3 (by rw [h2]; exact hcx n k x hk hxn)
    have py := run_part_int (P := P) (w := w) (off := fd.offset) h3 (by rw [h2]; exact hcy n k y hk hyn)
    have he := run_equalIn_int (P := P) w 9998 fd.type k k x y h3
    obtain ⟨hx1, hx2⟩ := List.getElem?_eq_some_iff.1 hxn
    obtain ⟨hy1, hy2⟩ := List.getElem?_eq_some_iff.1 hyn
    rw [List.drop_eq_getElem_cons hx1, List.drop_eq_getElem_cons hy1, hx2, hy2]
    simp only [Op.eqFields, if_pos h1, Sem.run_bind, px, py, Result.andThen_ok, he]
    by_cases hxy : x = y
    · subst hxy
      simp [ih]
    · simp [hxy]
theorem bo_ints {P : Program} {T : TypeId} {ks : List IntKind} {xs ys : List Int} {w : World} {x y : Operand} (hT : IntsAt P T ks) (h1 : xs.length = ks.length) (h2 : ys.length = ks.length) :
    Bo P .eql T x y (.agg ⟨List.zipWith Value.int ks xs⟩) (.agg ⟨List.zipWith Value.int ks ys⟩) w (.bool (decide (xs = ys))) ∧ Bo P .neq T x y (.agg ⟨List.zipWith Value.int ks xs⟩) (.agg ⟨List.zipWith Value.int ks ys⟩) w (.bool (!decide (xs = ys))) := by
  obtain ⟨fs, hu, hst, hg, hl, hf⟩ := hT
  have hfo : P.fieldsOf T = fs := by simp [Program.fieldsOf, hu]
  have hz : ∀ zs : List Int, zs.length = ks.length → ∀ (i : Nat) (k : IntKind) (z : Int), ks[i]? = some k → zs[i]? = some z → (⟨List.zipWith Value.int ks zs⟩ : Array Value)[i]? = some (Value.int k z) := by
    intro zs hzl i k z hk hz
    simp [List.getElem?_zipWith, hk, hz]
  have key := run_eqInts (P := P) (w := w) xs ys ks fs.toList 0 ⟨List.zipWith Value.int ks xs⟩ ⟨List.zipWith Value.int ks ys⟩ (fun i fd k hi hk => by
    rw [Nat.zero_add] at hk ⊢; exact hf i fd k hi hk) (by omega) h1 h2 (hz xs h1) (hz ys h2)
  have he := run_equalIn_struct (P := P) w 9999 T ⟨List.zipWith Value.int ks xs⟩ ⟨List.zipWith Value.int ks ys⟩ (by rw [hfo]; exact hu) hst
  rw [hfo, key] at he
  simp only [List.drop_zero] at he
  constructor
  · exact bo_of (run_eqGuard_agg w _ T x y _ _ hg) (by rw [run_eql_struct, he]; rfl)
  · exact bo_of (run_eqGuard_agg w _ T x y _ _ hg) (by rw [run_neq_struct, he]; rfl)
section iface
variable {P : Program} {n : Nat} {ops : Array Oper} {f : Fm} {w w0 : World} {S : List Nat} {H : List Res} {K : Fm → World → Prop} {o : Oper} {rest : List Oper} {d : Nat} {x y : Operand}
/-- A conversion of bytes that were laid down as a literal: they are marked, and never written again. -/
theorem GL_convB {T E i m g : Nat} {xs : List Value} (hw : Wn n ops f o) (hd : o.dst = some d) (ho : o.op = .convert T T x) (hx : ev n f x = .slice (some ⟨g, 0, none⟩) m m) (hT : P.underlying T = some (.slice E)) (hE : P.underlying E = some (.int .u8)) (hp : Hp w0 S w H) (hi : H[i]? = some (.row E 1 (.slice (some ⟨g, 0, none⟩) m m) m xs))
    (h : ∀ w', Hp w0 S w' (H.set i (.blk g (.cells ⟨xs⟩ E (m, m + 1)))) → GL P n ops rest (upd f d (.slice (some ⟨g, 0, none⟩) m m)) w' K) : GL P n ops (o :: rest) f w K := by
  have hown := (hp.get i hi).2
  obtain ⟨cur, hg, hsz, hxs⟩ : ∃ cur : Array Value, w.heap[g]? = some (.cells cur E (0, 0)) ∧ cur.size = m ∧ cur.toList = xs := by
    rcases hown with ⟨e, _⟩ | ⟨g', cap, cur, e, _, hg, hn, _, hs, ht⟩
    · cases e
    · simp only [Value.slice.injEq, Option.some.injEq, Addr.mk.injEq, and_true, true_and] at e
      obtain ⟨rfl, rfl⟩ := e
      refine ⟨cur, hg, by simpa using hs, ?_⟩
      rw [← ht, List.take_of_length_le (by simp; omega)]
  have hlt : g < w.heap.size := (Array.getElem?_eq_some_iff.1 hg).1
  have hsh : w.shape? g = some (E, cur.size) := by simp [World.shape?, hg]
  have hb : (w.freeze ⟨g, cur.size, none⟩ 1).heap = w.heap.modify g (fun | .cells c elem (lo, hi) => .cells c elem (if lo == hi then (cur.size, cur.size + 1) else (min lo cur.size, max hi (cur.size + 1))) | o => o) := rfl
  have hk : Hp w [g] (w.freeze ⟨g, cur.size, none⟩ 1) [.blk g (.cells ⟨xs⟩ E (m, m + 1))] := by
    refine ⟨⟨rfl, rfl, rfl, by rw [hb]; simp, fun k hk hn => ?_⟩, ?_, by simp [Res.foot], by simp⟩
    · rw [hb, Array.getElem?_modify]
      simp only [List.mem_singleton] at hn
      rw [if_neg (by omega)]
    · intro r hr
      simp only [List.mem_singleton] at hr
      subst hr
      show (w.freeze ⟨g, cur.size, none⟩ 1).heap[g]? = _
      rw [hb, Array.getElem?_modify, if_pos rfl, hg]
      subst hxs hsz
      simp
  refine GL_new (w' := w.freeze ⟨g, cur.size, none⟩ 1) (v := .slice (some ⟨g, 0, none⟩) m m) hw hd ?_ (h _ (hp.turnAt i hi hk))
  simp [execOp, ho, hx, convert, run_underlying hT, run_underlying hE, markStringish, hsh, Sem.run]
theorem Sl.blk {w : World} {g T : Nat} {xs : List Value} {fz : Nat × Nat} (h : (Res.blk g (.cells ⟨xs⟩ T fz)).at_ w) (sz n : Nat) (hl : xs.length = n * sz) (hm : n ≤ maxLen) : Sl w (.slice (some ⟨g, 0, none⟩) n n) sz n xs := by
  refine ⟨_, n, rfl, Nat.le_refl _, hm, hl, .inr ⟨g, 0, rfl, fun j u hj => ?_⟩⟩
  have hg : w.heap[g]? = some (.cells ⟨xs⟩ T fz) := h
  simp only [World.cell?, hg, Nat.zero_add]
  simpa using hj
theorem bo_pnn {T E : TypeId} (hT : P.underlying T = some (.pointer E)) : Bo P .eql T x y (.pointer none) (.pointer none) w (.bool true) := by
  have h : P.underlying T = some (.pointer (P.pointee T)) := by rw [hT]; simp [Program.pointee, hT]
  exact bo_of (by simp [eqGuard, Sem.run]) (run_eql_pointer_nil w T none h)
theorem bo_boolE {op : BinOp} {T : TypeId} {a b : Value} {p q : Bool} (h : Bo P op T x y a b w (.bool p)) (e : p = q) : Bo P op T x y a b w (.bool q) := e ▸ h
theorem cells.keep {g T : Nat} {L : List Value} {w w' : World} (h : (cells g T L).at_ w) (hm : Mod [] w w') : (cells g T L).at_ w' := Res.kept h hm (by simp)
end iface
end Go.Mo
