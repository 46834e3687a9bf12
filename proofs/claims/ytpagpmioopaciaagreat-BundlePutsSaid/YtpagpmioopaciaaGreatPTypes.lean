/- More laws of the operations: what came to be needed later. -/
import Derived.Test.YtpagpmioopaciaaGreatPActs
import Derived.Test.YtpagpmioopaciaaGreatProg
set_option linter.unusedVariables false
set_option linter.unusedSimpArgs false
namespace Go.Mo
open Go.RowKit Go.Lib
theorem bo_arrB {P : Program} {T E : TypeId} {m : Nat} {a b : List UInt8} {w : World} {x y : Operand} (hT : P.underlying T = some (.array m E)) (hE : P.underlying E = some (.int .u8)) (hs : (P.info? E).map (·.size) = some 1) (hg : P.eqGuardType P.depth T = false) (h1 : a.length = m) (h2 : b.length = m) :
    Bo P .eql T x y (.agg ⟨bys a⟩) (.agg ⟨bys b⟩) w (.bool (decide (a = b))) ∧ Bo P .neq T x y (.agg ⟨bys a⟩) (.agg ⟨bys b⟩) w (.bool (!decide (a = b))) := by
  have h := bo_arr (x := x) (y := y) (w := w) (xs := a.map fun u => (u.toNat : Int)) (ys := b.map fun u => (u.toNat : Int)) hT hE hs hg (by simpa using h1) (by simpa using h2)
  have e : ∀ l : List UInt8, (l.map fun u => (u.toNat : Int)).map (Value.int .u8) = bys l := fun l => by simp [bys, List.map_map, Function.comp_def]
  rw [e, e] at h
  have e2 : decide ((a.map fun u => (u.toNat : Int)) = b.map fun u => (u.toNat : Int)) = decide (a = b) := by
    congr 1
    refine propext ⟨fun hq => bys_inj (by rw [← e a, ← e b, hq]), fun hq => by rw [hq]⟩
  rwa [e2] at h
theorem run_part_int {P : Program} {w : World} {t off : Nat} {k : IntKind} {cs : Array Value} {v : Value} (hu : P.underlying t = some (.int k)) (hv : cs[off]? = some v) : (part t cs off).run P w = .ok v w := by
  simp [part, isAgg, run_underlying hu, hv, Sem.run]
section iface
variable {P : Program} {n : Nat} {ops : Array Oper} {f : Fm} {w w0 : World} {S : List Nat} {H : List Res} {K : KP} {o : Oper} {rest : List Oper} {d : Nat} {x y : Operand}
theorem rd_iface {T : TypeId} {v : Value} {t : TypeDesc} (ho : o.op = .makeInterface T x) (hx : ev n f x = v) (hT : P.underlying T = some t) (hd : (match t with | .interface _ => true | _ => false) = false) : Rd P n f o w (.iface T v) := by
  have h : (Instr.makeInterface T v).run P w = .ok (.iface T v) w := by
    unfold Instr.makeInterface
    cases t <;> first | (simp at hd; done) | simp [run_underlying hT, Sem.run]
  simp [Rd, execOp, ho, hx, h, Sem.run]
theorem run_equalIn_inil {P : Program} {w : World} (q : Nat) {T m : TypeId} {ms : TypeDesc} {v : Value} (hT : P.underlying T = some ms) (hd : (match ms with | .interface _ => true | _ => false) = true) : (Op.equalIn (q + 1) T (.iface m v) .nilIface).run P w = .ok false w := by
  cases ms <;> simp at hd
  simp [Op.equalIn, run_underlying hT]
theorem run_equalIn_nilnil {P : Program} {w : World} (q : Nat) {T : TypeId} {ms : TypeDesc} (hT : P.underlying T = some ms) (hd : (match ms with | .interface _ => true | _ => false) = true) : (Op.equalIn (q + 1) T .nilIface .nilIface).run P w = .ok true w := by
  cases ms <;> simp at hd
  simp [Op.equalIn, run_underlying hT]
theorem run_equal_inil {P : Program} {w : World} {T m : TypeId} {ms : TypeDesc} {v : Value} (hT : P.underlying T = some ms) (hd : (match ms with | .interface _ => true | _ => false) = true) : (Op.equal T (.iface m v) .nilIface).run P w = .ok false w := run_equalIn_inil 9999 hT hd
theorem run_equal_nilnil {P : Program} {w : World} {T : TypeId} {ms : TypeDesc} (hT : P.underlying T = some ms) (hd : (match ms with | .interface _ => true | _ => false) = true) : (Op.equal T .nilIface .nilIface).run P w = .ok true w := run_equalIn_nilnil 9999 hT hd
/-- A conversion of bytes that were laid down as a literal: they are marked, and never written again. -/
theorem GL_convB {T E i m g : Nat} {xs : List Value} (hw : Wn n ops f o) (hd : o.dst = some d) (ho : o.op = .convert T T x) (hx : ev n f x = .slice (some ⟨g, 0, none⟩) m m) (hT : P.underlying T = some (.slice E)) (hE : P.underlying E = some (.int .u8)) (hp : Hp w0 S w H) (hi : H[i]? = some (.row E 1 (.slice (some ⟨g, 0, none⟩) m m) m xs))
    (h : ∀ w', Hp w0 S w' (H.set i (.blk g (.cells ⟨xs⟩ E (m, m + 1)))) → GL P n ops rest (upd f d (.slice (some ⟨g, 0, none⟩) m m)) w' K) : GL P n ops (o :: rest) f w K := by
  have hown := (hp.get i hi).2
  obtain ⟨cur, hg, hsz, hxs⟩ : ∃ cur : Array Value, w.heap[g]? = some (.cells cur E (0, 0)) ∧ cur.size = m ∧ cur.toList = xs := by
    rcases hown with ⟨e, _⟩ | ⟨g', cap, cur, e, _, hg, hn, _, hs, ht⟩
    · cases e
    · simp only [Value.slice.injEq, Option.some.injEq, Addr.mk.injEq, and_true, true_and] at e
      obtain ⟨rfl, rfl⟩ := e
      refine ⟨cur, hg, by simpa using hs, ?_⟩
      rw [← ht, List.take_of_length_le (by simp; omega)]
  have hlt : g < w.heap.size := (Array.getElem?_eq_some_iff.1 hg).1
  have hsh : w.shape? g = some (E, cur.size) := by simp [World.shape?, hg]
  have hb : (w.freeze ⟨g, cur.size, none⟩ 1).heap = w.heap.modify g (fun | .cells c elem (lo, hi) => .cells c elem (if lo == hi then (cur.size, cur.size + 1) else (min lo cur.size, max hi (cur.size + 1))) | o => o) := rfl
  have hk : Hp w [g] (w.freeze ⟨g, cur.size, none⟩ 1) [.blk g (.cells ⟨xs⟩ E (m, m + 1))] := by
    refine ⟨⟨rfl, rfl, rfl, by rw [hb]; simp, fun k hk hn => ?_⟩, ?_, by simp [Res.foot], by simp⟩
    · rw [hb, Array.getElem?_modify]
      simp only [List.mem_singleton] at hn
      rw [if_neg (by omega)]
    · intro r hr
      simp only [List.mem_singleton] at hr
      subst hr
      show (w.freeze ⟨g, cur.size, none⟩ 1).heap[g]? = _
      rw [hb, Array.getElem?_modify, if_pos rfl, hg]
      subst hxs hsz
      simp
  refine GL_new (w' := w.freeze ⟨g, cur.size, none⟩ 1) (v := .slice (some ⟨g, 0, none⟩) m m) hw hd ?_ (h _ (hp.turnAt i hi hk))
  simp [execOp, ho, hx, convert, run_underlying hT, run_underlying hE, markStringish, hsh, Sem.run]
theorem Sl.blk {w : World} {g T : Nat} {xs : List Value} {fz : Nat × Nat} (h : (Res.blk g (.cells ⟨xs⟩ T fz)).at_ w) (sz n : Nat) (hl : xs.length = n * sz) (hm : n ≤ maxLen) : Sl w (.slice (some ⟨g, 0, none⟩) n n) sz n xs := by
  refine ⟨_, n, rfl, Nat.le_refl _, hm, hl, .inr ⟨g, 0, rfl, fun j u hj => ?_⟩⟩
  have hg : w.heap[g]? = some (.cells ⟨xs⟩ T fz) := h
  simp only [World.cell?, hg, Nat.zero_add]
  simpa using hj
theorem rd_indexV {T E : TypeId} {k : IntKind} {i : Int} {j len : Nat} {L : List Value} {d : TypeDesc} {u : Value} (ho : o.op = .index T x y) (hx : ev n f x = .agg ⟨L⟩) (hy : ev n f y = .int k i) (hT : P.underlying T = some (.array len E)) (hE : P.underlying E = some d) (hd : plainT d = true)
    (hs : (P.info? E).map (·.size) = some 1) (hi : i = (j : Int)) (hj : j < len) (hu : L[j]? = some u) : Rd P n f o w u := by
  subst hi
  have h1 : (isAgg E).run P w = .ok false w := by rw [run_isAgg hE]; cases d <;> simp [plainT] at hd <;> rfl
  have h2 : (part E ⟨L⟩ j).run P w = .ok u w := by simp [part, h1, hu, Sem.run]
  simp [Rd, execOp, ho, hx, hy, Instr.index, asIntOf, run_underlying hT, run_sizeOf hs, hj, h2, Sem.run]
theorem bo_boolE {op : BinOp} {T : TypeId} {a b : Value} {p q : Bool} (h : Bo P op T x y a b w (.bool p)) (e : p = q) : Bo P op T x y a b w (.bool q) := e ▸ h
theorem cells.keep {g T : Nat} {L : List Value} {w w' : World} (h : (cells g T L).at_ w) (hm : Mod [] w w') : (cells g T L).at_ w' := Res.kept h hm (by simp)
end iface
end Go.Mo
namespace Go.Proofs.YtpagpmioopaciaaGreat
open Go.Mo
theorem ts3 : (Tryz.prog.info? 3).map (·.size) = some 1 := by kernel_rfl
theorem ts4 : (Tryz.prog.info? 4).map (·.size) = some 1 := by kernel_rfl
theorem ts5 : (Tryz.prog.info? 5).map (·.size) = some 1 := by kernel_rfl
theorem ts9 : (Tryz.prog.info? 9).map (·.size) = some 1 := by kernel_rfl
theorem ts22 : (Tryz.prog.info? 22).map (·.size) = some 1 := by kernel_rfl
theorem ts23 : (Tryz.prog.info? 23).map (·.size) = some 1 := by kernel_rfl
theorem ts25 : (Tryz.prog.info? 25).map (·.size) = some 5 := by kernel_rfl
theorem ts28 : (Tryz.prog.info? 28).map (·.size) = some 5 := by kernel_rfl
theorem ts30 : (Tryz.prog.info? 30).map (·.size) = some 32 := by kernel_rfl
theorem ts31 : (Tryz.prog.info? 31).map (·.size) = some 1 := by kernel_rfl
theorem ts35 : (Tryz.prog.info? 35).map (·.size) = some 1 := by kernel_rfl
theorem ts46 : (Tryz.prog.info? 46).map (·.size) = some 100 := by kernel_rfl
theorem ts50 : (Tryz.prog.info? 50).map (·.size) = some 1 := by kernel_rfl
theorem ts54 : (Tryz.prog.info? 54).map (·.size) = some 37 := by kernel_rfl
theorem ts62 : (Tryz.prog.info? 62).map (·.size) = some 1 := by kernel_rfl
theorem ts64 : (Tryz.prog.info? 64).map (·.size) = some 1 := by kernel_rfl
theorem ts86 : (Tryz.prog.info? 86).map (·.size) = some 4 := by kernel_rfl
theorem ts113 : (Tryz.prog.info? 113).map (·.size) = some 8 := by kernel_rfl
theorem ts115 : (Tryz.prog.info? 115).map (·.size) = some 64 := by kernel_rfl
theorem ts130 : (Tryz.prog.info? 130).map (·.size) = some 1 := by kernel_rfl
theorem tz5 : (Tryz.prog.info? 5).bind (·.zero) = some (.int .u8 0) := by kernel_rfl
theorem ti5 : (Tryz.prog.info? 5).map (fun i => (i.zero, i.size, i.bytes)) = some (some (.int .u8 0), 1, 1) := by kernel_rfl
theorem fa25_0 : FieldAt Tryz.prog 25 0 0 := fieldAt Tryz.underlying25 rfl rfl ts9 rfl
theorem fa25_1 : FieldAt Tryz.prog 25 1 1 := fieldAt Tryz.underlying25 rfl rfl ts3 rfl
theorem fa25_2 : FieldAt Tryz.prog 25 2 2 := fieldAt Tryz.underlying25 rfl rfl ts9 rfl
theorem fa25_3 : FieldAt Tryz.prog 25 3 3 := fieldAt Tryz.underlying25 rfl rfl ts22 rfl
theorem fa25_4 : FieldAt Tryz.prog 25 4 4 := fieldAt Tryz.underlying25 rfl rfl ts23 rfl
theorem tz28 : (Tryz.prog.info? 28).bind (·.zero) = some (.agg ⟨[.string ⟨#[]⟩, .int .i64 0, .string ⟨#[]⟩, .slice none 0 0, .slice none 0 0]⟩) := by kernel_rfl
theorem pl28 : PlacesAt Tryz.prog 28 [(0, 1), (1, 1), (2, 1), (3, 1), (4, 1)] := ⟨_, Tryz.underlying28, by kernel_rfl⟩
theorem fa28_0 : FieldAt Tryz.prog 28 0 0 := fieldAt Tryz.underlying28 rfl rfl ts9 rfl
theorem fa28_1 : FieldAt Tryz.prog 28 1 1 := fieldAt Tryz.underlying28 rfl rfl ts3 rfl
theorem fa28_2 : FieldAt Tryz.prog 28 2 2 := fieldAt Tryz.underlying28 rfl rfl ts9 rfl
theorem fa28_3 : FieldAt Tryz.prog 28 3 3 := fieldAt Tryz.underlying28 rfl rfl ts22 rfl
theorem fa28_4 : FieldAt Tryz.prog 28 4 4 := fieldAt Tryz.underlying28 rfl rfl ts23 rfl
theorem tz30 : (Tryz.prog.info? 30).bind (·.zero) = some (.agg ⟨List.replicate 32 (.int .u8 0)⟩) := by kernel_rfl
theorem ti30 : (Tryz.prog.info? 30).map (fun i => (i.zero, i.size, i.bytes)) = some (some (.agg ⟨List.replicate 32 (.int .u8 0)⟩), 32, 32) := by kernel_rfl
theorem tz31 : (Tryz.prog.info? 31).bind (·.zero) = some (.int .i64 0) := by kernel_rfl
theorem tz35 : (Tryz.prog.info? 35).bind (·.zero) = some (.slice none 0 0) := by kernel_rfl
theorem ti35 : (Tryz.prog.info? 35).map (fun i => (i.zero, i.size, i.bytes)) = some (some (.slice none 0 0), 1, 24) := by kernel_rfl
theorem tz46 : (Tryz.prog.info? 46).bind (·.zero) = some (.agg ⟨[.int .i64 0, .int .i64 0, .string ⟨#[]⟩] ++ List.replicate 32 (.int .u8 0) ++ [.string ⟨#[]⟩] ++ List.replicate 32 (.int .u8 0) ++ List.replicate 32 (.int .u8 0)⟩) := by kernel_rfl
theorem ti46 : (Tryz.prog.info? 46).map (fun i => (i.zero, i.size, i.bytes)) = some (some (.agg ⟨[.int .i64 0, .int .i64 0, .string ⟨#[]⟩] ++ List.replicate 32 (.int .u8 0) ++ [.string ⟨#[]⟩] ++ List.replicate 32 (.int .u8 0) ++ List.replicate 32 (.int .u8 0)⟩), 100, 144) := by kernel_rfl
theorem pl46 : PlacesAt Tryz.prog 46 [(0, 1), (1, 1), (2, 1), (3, 32), (35, 1), (36, 32), (68, 32)] := ⟨_, Tryz.underlying46, by kernel_rfl⟩
theorem fa46_0 : FieldAt Tryz.prog 46 0 0 := fieldAt Tryz.underlying46 rfl rfl ts3 rfl
theorem fa46_1 : FieldAt Tryz.prog 46 1 1 := fieldAt Tryz.underlying46 rfl rfl ts3 rfl
theorem fa46_2 : FieldAt Tryz.prog 46 2 2 := fieldAt Tryz.underlying46 rfl rfl ts9 rfl
theorem fa46_3 : FieldAt Tryz.prog 46 3 3 := fieldAt Tryz.underlying46 rfl rfl ts30 rfl
theorem fa46_4 : FieldAt Tryz.prog 46 4 35 := fieldAt Tryz.underlying46 rfl rfl ts9 rfl
theorem fa46_5 : FieldAt Tryz.prog 46 5 36 := fieldAt Tryz.underlying46 rfl rfl ts30 rfl
theorem fa46_6 : FieldAt Tryz.prog 46 6 68 := fieldAt Tryz.underlying46 rfl rfl ts30 rfl
theorem tz50 : (Tryz.prog.info? 50).bind (·.zero) = some (.slice none 0 0) := by kernel_rfl
theorem tz52 : (Tryz.prog.info? 52).bind (·.zero) = some (.agg ⟨[.int .i64 0, .string ⟨#[]⟩, .string ⟨#[]⟩, .string ⟨#[]⟩, .int .i64 0, .bool false, .bool false, .slice none 0 0] ++ List.replicate 32 (.int .u8 0) ++ [.slice none 0 0]⟩) := by kernel_rfl
theorem pl52 : PlacesAt Tryz.prog 52 [(0, 1), (1, 1), (2, 1), (3, 1), (4, 1), (5, 1), (6, 1), (7, 1), (8, 32), (40, 1)] := ⟨_, Tryz.underlying52, by kernel_rfl⟩
theorem tz54 : (Tryz.prog.info? 54).bind (·.zero) = some (.agg ⟨[.int .i64 0] ++ List.replicate 32 (.int .u8 0) ++ [.slice none 0 0, .slice none 0 0, .int .i64 0, .bool false]⟩) := by kernel_rfl
theorem pl54 : PlacesAt Tryz.prog 54 [(0, 1), (1, 32), (33, 1), (34, 1), (35, 1), (36, 1)] := ⟨_, Tryz.underlying54, by kernel_rfl⟩
theorem fa54_0 : FieldAt Tryz.prog 54 0 0 := fieldAt Tryz.underlying54 rfl rfl ts31 rfl
theorem tz64 : (Tryz.prog.info? 64).bind (·.zero) = some (.int .u32 0) := by kernel_rfl
theorem tz73 : (Tryz.prog.info? 73).bind (·.zero) = some (.agg ⟨[.slice none 0 0]⟩) := by kernel_rfl
theorem pl73 : PlacesAt Tryz.prog 73 [(0, 1)] := ⟨_, Tryz.underlying73, by kernel_rfl⟩
theorem fa73_0 : FieldAt Tryz.prog 73 0 0 := fieldAt Tryz.underlying73 rfl rfl ts35 rfl
theorem tz86 : (Tryz.prog.info? 86).bind (·.zero) = some (.agg ⟨List.replicate 4 (.int .u8 0)⟩) := by kernel_rfl
theorem tz95 : (Tryz.prog.info? 95).bind (·.zero) = some (.agg ⟨List.replicate 2 (.string ⟨#[]⟩)⟩) := by kernel_rfl
theorem tz113 : (Tryz.prog.info? 113).bind (·.zero) = some (.agg ⟨List.replicate 8 (.int .u32 0)⟩) := by kernel_rfl
theorem tz115 : (Tryz.prog.info? 115).bind (·.zero) = some (.agg ⟨List.replicate 64 (.int .u32 0)⟩) := by kernel_rfl
theorem tz125 : (Tryz.prog.info? 125).bind (·.zero) = some (.agg ⟨List.replicate 8 (.int .u32 0) ++ [.slice none 0 0, .int .u64 0]⟩) := by kernel_rfl
theorem pl125 : PlacesAt Tryz.prog 125 [(0, 8), (8, 1), (9, 1)] := ⟨_, Tryz.underlying125, by kernel_rfl⟩
theorem fa125_0 : FieldAt Tryz.prog 125 0 0 := fieldAt Tryz.underlying125 rfl rfl ts113 rfl
theorem fa125_1 : FieldAt Tryz.prog 125 1 8 := fieldAt Tryz.underlying125 rfl rfl ts35 rfl
theorem fa125_2 : FieldAt Tryz.prog 125 2 9 := fieldAt Tryz.underlying125 rfl rfl ts62 rfl
theorem tz130 : (Tryz.prog.info? 130).bind (·.zero) = some (.agg ⟨[.int .i64 0]⟩) := by kernel_rfl
theorem pl130 : PlacesAt Tryz.prog 130 [(0, 1)] := ⟨_, Tryz.underlying130, by kernel_rfl⟩
theorem fa130_0 : FieldAt Tryz.prog 130 0 0 := fieldAt Tryz.underlying130 rfl rfl ts31 rfl
theorem tz142 : (Tryz.prog.info? 142).bind (·.zero) = some (.agg ⟨[.slice none 0 0, .bool false]⟩) := by kernel_rfl
theorem pl142 : PlacesAt Tryz.prog 142 [(0, 1), (1, 1)] := ⟨_, Tryz.underlying142, by kernel_rfl⟩
theorem fa142_0 : FieldAt Tryz.prog 142 0 0 := fieldAt Tryz.underlying142 rfl rfl ts35 rfl
theorem fa142_1 : FieldAt Tryz.prog 142 1 1 := fieldAt Tryz.underlying142 rfl rfl ts4 rfl
theorem mixed : Tryz.prog.follows .mixedOrders = true := by kernel_rfl
end Go.Proofs.YtpagpmioopaciaaGreat
