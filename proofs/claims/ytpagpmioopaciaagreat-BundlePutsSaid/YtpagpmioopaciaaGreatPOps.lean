/- The laws of the operations: what each yields, and what it does to what is owned. Nothing of the program stands here. -/
import Derived.Test.YtpagpmioopaciaaGreatPMem
import Derived.Laws.BitsLemmas
import Derived.ChangeKeysEq
set_option linter.unusedVariables false
set_option linter.unusedSimpArgs false
namespace Go.Mo
open Go.RowKit
section reads
variable {P : Program} {n : Nat} {f : Fm} {w : World} {o : Oper} {x y : Operand}
theorem rd_move {v : Value} (ho : o.op = .move x) (hx : ev n f x = v) : Rd P n f o w v := by simp [Rd, execOp, ho, hx, Sem.run]
theorem rd_assign {v : Value} (ho : o.op = .assign x) (hx : ev n f x = v) : Rd P n f o w v := by simp [Rd, execOp, ho, hx, Sem.run]
theorem rd_pickT {c : Operand} {v : Value} (ho : o.op = .pick c x y) (hc : ev n f c = .bool true) (hx : ev n f x = v) : Rd P n f o w v := by
  simp [Rd, execOp, ho, hc, hx, asBool, Sem.run]
theorem rd_pickF {c : Operand} {v : Value} (ho : o.op = .pick c x y) (hc : ev n f c = .bool false) (hy : ev n f y = v) : Rd P n f o w v := by
  simp [Rd, execOp, ho, hc, hy, asBool, Sem.run]
theorem rd_nilCheck {a : Addr} (ho : o.op = .nilCheck x) (hx : ev n f x = .pointer (some a)) : Rd P n f o w (.pointer (some a)) := by simp [Rd, execOp, ho, hx, Sem.run]
theorem rd_extract {vs : Array Value} {i : Nat} {v : Value} (ho : o.op = .extract x i) (hx : ev n f x = .tuple vs) (hv : vs[i]? = some v) : Rd P n f o w v := by
  simp [Rd, execOp, ho, hx, Instr.extract, hv, Sem.run]
theorem rd_not {T : TypeId} {b : Bool} (ho : o.op = .unOp .not T x) (hx : ev n f x = .bool b) : Rd P n f o w (.bool (!b)) := by simp [Rd, execOp, ho, hx, Op.unary, Sem.run]
/-- What an operator makes of two values. -/
def Bo (P : Program) (op : BinOp) (T : TypeId) (x y : Operand) (a b : Value) (w : World) (v : Value) : Prop := (eqGuard op T x y a b).run P w = .ok () w ∧ (binOp op T a b).run P w = .ok v w
theorem rd_bin {op : BinOp} {T U : TypeId} {a b v : Value} (ho : o.op = .binOp op T x y U) (hx : ev n f x = a) (hy : ev n f y = b) (hb : Bo P op T x y a b w v) : Rd P n f o w v := by
  obtain ⟨h1, h2⟩ := hb
  simp [Rd, execOp, ho, hx, hy, h1, h2, Sem.run]
theorem bo_of {op : BinOp} {T : TypeId} {a b v : Value} (hg : (eqGuard op T x y a b).run P w = .ok () w) (h : (binOp op T a b).run P w = .ok v w) : Bo P op T x y a b w v := ⟨hg, h⟩
theorem guard_int {op : BinOp} {T : TypeId} {k k' : IntKind} {p q : Int} : (eqGuard op T x y (.int k p) (.int k' q)).run P w = .ok () w := by cases op <;> simp [eqGuard, Sem.run]
theorem guard_str {op : BinOp} {T : TypeId} {p q : ByteArray} : (eqGuard op T x y (.string p) (.string q)).run P w = .ok () w := by cases op <;> simp [eqGuard, Sem.run]
section ints
variable {T : TypeId} {k : IntKind} {p q : Int}
theorem bo_add : Bo P .add T x y (.int k p) (.int k q) w (.int k (k.wrap (p + q))) := bo_of guard_int (by simp [binOp, Op.intArith, Sem.run])
theorem bo_sub : Bo P .sub T x y (.int k p) (.int k q) w (.int k (k.wrap (p - q))) := bo_of guard_int (by simp [binOp, Op.intArith, Sem.run])
theorem bo_mul : Bo P .mul T x y (.int k p) (.int k q) w (.int k (k.wrap (p * q))) := bo_of guard_int (by simp [binOp, Op.intArith, Sem.run])
theorem bo_add64 (h : -9223372036854775808 ≤ p + q ∧ p + q ≤ 9223372036854775807) : Bo P .add T x y (.int .i64 p) (.int .i64 q) w (.int .i64 (p + q)) := by
  have := bo_add (P := P) (w := w) (x := x) (y := y) (T := T) (k := .i64) (p := p) (q := q); rwa [IntWalk.i64_in _ h] at this
theorem bo_sub64 (h : -9223372036854775808 ≤ p - q ∧ p - q ≤ 9223372036854775807) : Bo P .sub T x y (.int .i64 p) (.int .i64 q) w (.int .i64 (p - q)) := by
  have := bo_sub (P := P) (w := w) (x := x) (y := y) (T := T) (k := .i64) (p := p) (q := q); rwa [IntWalk.i64_in _ h] at this
theorem bo_mul64 (h : -9223372036854775808 ≤ p * q ∧ p * q ≤ 9223372036854775807) : Bo P .mul T x y (.int .i64 p) (.int .i64 q) w (.int .i64 (p * q)) := by
  have := bo_mul (P := P) (w := w) (x := x) (y := y) (T := T) (k := .i64) (p := p) (q := q); rwa [IntWalk.i64_in _ h] at this
theorem bo_quo64 (h0 : 0 ≤ p) (h1 : p ≤ 9223372036854775807) (h2 : 1 ≤ q) : Bo P .quo T x y (.int .i64 p) (.int .i64 q) w (.int .i64 (p / q)) := by
  refine bo_of guard_int ?_
  have := IntWalk.i64_quo p q ⟨h0, h1, h2⟩
  simp [binOp, Op.intDiv, show ¬ q = 0 by omega, Sem.run, this]
theorem bo_rem64 (h0 : 0 ≤ p) (h2 : 1 ≤ q) : Bo P .rem T x y (.int k p) (.int k q) w (.int k (p % q)) := by
  refine bo_of guard_int ?_
  simp [binOp, Op.intDiv, show ¬ q = 0 by omega, Sem.run, Int.tmod_eq_emod_of_nonneg h0]
theorem bo_quoU (h0 : 0 ≤ p) (h1 : p < 18446744073709551616) (h2 : 1 ≤ q) : Bo P .quo T x y (.int .u64 p) (.int .u64 q) w (.int .u64 (p / q)) := by
  refine bo_of guard_int ?_
  have := IntWalk.u64_quo p q ⟨h0, by omega, h2⟩
  simp [binOp, Op.intDiv, show ¬ q = 0 by omega, Sem.run, this]
theorem bo_eql : Bo P .eql T x y (.int k p) (.int k q) w (.bool (decide (p = q))) := bo_of guard_int (by simp [binOp, Op.intCmp, Sem.run]; rfl)
theorem bo_neq : Bo P .neq T x y (.int k p) (.int k q) w (.bool (!decide (p = q))) := bo_of guard_int (by simp [binOp, Op.intCmp, Sem.run]; rfl)
theorem bo_lss : Bo P .lss T x y (.int k p) (.int k q) w (.bool (decide (p < q))) := bo_of guard_int (by simp [binOp, Op.intCmp, Sem.run])
theorem bo_leq : Bo P .leq T x y (.int k p) (.int k q) w (.bool (decide (p ≤ q))) := bo_of guard_int (by simp [binOp, Op.intCmp, Sem.run])
theorem bo_gtr : Bo P .gtr T x y (.int k p) (.int k q) w (.bool (decide (q < p))) := bo_of guard_int (by simp [binOp, Op.intCmp, Sem.run])
theorem bo_geq : Bo P .geq T x y (.int k p) (.int k q) w (.bool (decide (q ≤ p))) := bo_of guard_int (by simp [binOp, Op.intCmp, Sem.run])
theorem bo_and : Bo P .and T x y (.int k p) (.int k q) w (.int k (k.wrap (BitVec.ofInt k.bits p &&& BitVec.ofInt k.bits q).toNat)) := bo_of guard_int (by simp [binOp, Op.intBits, Sem.run])
theorem bo_or : Bo P .or T x y (.int k p) (.int k q) w (.int k (k.wrap (BitVec.ofInt k.bits p ||| BitVec.ofInt k.bits q).toNat)) := bo_of guard_int (by simp [binOp, Op.intBits, Sem.run])
theorem bo_xor : Bo P .xor T x y (.int k p) (.int k q) w (.int k (k.wrap (BitVec.ofInt k.bits p ^^^ BitVec.ofInt k.bits q).toNat)) := bo_of guard_int (by simp [binOp, Op.intBits, Sem.run])
theorem bo_shl {k' : IntKind} (h : 0 ≤ q) : Bo P .shl T x y (.int k p) (.int k' q) w (.int k (k.wrap (p * 2 ^ min q.toNat k.bits))) :=
  bo_of guard_int (by simp [binOp, Op.shift, Sem.run, show ¬ q < 0 by omega])
theorem bo_shr {k' : IntKind} (h : 0 ≤ q) (hp : 0 ≤ p) : Bo P .shr T x y (.int k p) (.int k' q) w (.int k (p / 2 ^ min q.toNat k.bits)) :=
  bo_of guard_int (by
    have e : p.fdiv (2 ^ min q.toNat k.bits) = p / 2 ^ min q.toNat k.bits := Int.fdiv_eq_ediv_of_nonneg _ (Int.le_of_lt (Int.pow_pos (by decide)))
    simp [binOp, Op.shift, Sem.run, show ¬ q < 0 by omega, e])
end ints
theorem toList_beq (p q : ByteArray) : (p.toList == q.toList) = decide (p = q) := by
  rw [Bool.eq_iff_iff]
  simp only [beq_iff_eq, decide_eq_true_eq]
  constructor
  · intro h
    rw [ByteArray.toList_eq, ByteArray.toList_eq] at h
    cases p; cases q; congr 1; exact Array.toList_inj.1 h
  · rintro rfl; rfl
theorem bo_seql {T : TypeId} {p q : ByteArray} : Bo P .eql T x y (.string p) (.string q) w (.bool (decide (p = q))) := bo_of guard_str (by simp [binOp, Op.stringOp, Sem.run, toList_beq])
theorem bo_sneq {T : TypeId} {p q : ByteArray} : Bo P .neq T x y (.string p) (.string q) w (.bool (!decide (p = q))) := bo_of guard_str (by simp [binOp, Op.stringOp, Sem.run, toList_beq])
/-- Conversions between whole numbers. -/
theorem rd_conv {S T : TypeId} {k k' : IntKind} {p : Int} {d : TypeDesc} (ho : o.op = .convert S T x) (hx : ev n f x = .int k' p) (hT : P.underlying T = some (.int k)) (hS : P.underlying S = some d) (hd : d ≠ .unsafePointer) :
    Rd P n f o w (.int k (k.wrap p)) := by
  simp only [Rd, execOp, ho, hx, convert]
  cases d <;> first | exact absurd rfl hd | simp [run_underlying hT, run_underlying hS, Conv.intToInt, Sem.run]
/-- Field i of the struct T lies 'off' cells behind its head; its type takes cells. -/
def FieldAt (P : Program) (T i off : Nat) : Prop := ∃ fs fd sz, P.underlying T = some (.struct fs) ∧ fs[i]? = some fd ∧ fd.offset = off ∧ (P.info? fd.type).map (·.size) = some sz ∧ (sz == 0) = false
theorem fieldAt {T i off : Nat} {fs : Array Field} {fd : Field} {sz : Nat} (h1 : P.underlying T = some (.struct fs)) (h2 : fs[i]? = some fd) (h3 : fd.offset = off) (h4 : (P.info? fd.type).map (·.size) = some sz) (h5 : (sz == 0) = false) : FieldAt P T i off := ⟨fs, fd, sz, h1, h2, h3, h4, h5⟩
/-- The place of a field. -/
theorem rd_field {T : TypeId} {g off i fo : Nat} (ho : o.op = .fieldAddr T x i) (hx : ev n f x = .pointer (some ⟨g, off, none⟩)) (hf : FieldAt P T i fo) (off' : Nat) (he : off + fo = off') : Rd P n f o w (.pointer (some ⟨g, off', none⟩)) := by
  obtain ⟨fs, fd, sz, hT, hf, rfl, hs, h0⟩ := hf
  obtain ⟨inf, hi, rfl⟩ := Option.map_eq_some_iff.1 hs
  have h0' : ¬ inf.size = 0 := by simpa using h0
  have ha : (⟨g, off, none⟩ : Addr).add fd.offset = ⟨g, off + fd.offset, none⟩ := by unfold Addr.add; split <;> simp_all
  subst he
  simp [Rd, execOp, ho, hx, Instr.fieldAt, run_underlying hT, hf, Instr.sureAddr, fieldPlace, sizeOf, typeInfo, hi, h0', ha, Sem.run, program]
theorem run_sizeOf {T sz : Nat} (hs : (P.info? T).map (·.size) = some sz) : (sizeOf T).run P w = .ok sz w := by
  obtain ⟨inf, hi, rfl⟩ := Option.map_eq_some_iff.1 hs
  simp [sizeOf, typeInfo, hi, Sem.run, program]
theorem run_isAgg {T : TypeId} {d : TypeDesc} (h : P.underlying T = some d) : (isAgg T).run P w = .ok (match d with | .struct _ | .array _ _ => true | _ => false) w := by
  cases d <;> simp [isAgg, run_underlying h, Sem.run]
def plainT : TypeDesc → Bool
  | .struct _ | .array _ _ => false
  | _ => true
/-- A load of one cell. -/
theorem rd_load {T : TypeId} {a : Addr} {d : TypeDesc} {v : Value} (ho : o.op = .load T x) (hx : ev n f x = .pointer (some a)) (hT : P.underlying T = some d) (hd : plainT d = true) (hc : w.cell? a = some v) : Rd P n f o w v := by
  have : (loadVar T a).run P w = .ok v w := by
    unfold loadVar
    cases d <;> simp [plainT] at hd <;> simp [isAgg, run_underlying hT, load, Sem.run, hc]
  simp [Rd, execOp, ho, hx, Instr.loadAt, Instr.sureAddr, Sem.run, this]
/-- A load of a struct or an array. -/
theorem rd_loadN {T : TypeId} {g off sz : Nat} {d : TypeDesc} {L : List Value} (ho : o.op = .load T x) (hx : ev n f x = .pointer (some ⟨g, off, none⟩)) (hT : P.underlying T = some d) (hd : plainT d = false)
    (hs : (P.info? T).map (·.size) = some sz) (hl : L.length = sz) (hc : ∀ j u, L[j]? = some u → w.cell? ⟨g, off + j, none⟩ = some u) : Rd P n f o w (.agg ⟨L⟩) := by
  have hadd : ∀ j, (⟨g, off, none⟩ : Addr).add j = ⟨g, off + j, none⟩ := fun j => by unfold Addr.add; split <;> simp_all
  have h1 := run_loadCells_list (P := P) (w := w) ⟨g, off, none⟩ L fun j u hj => by rw [hadd]; exact hc j u hj
  have : (loadVar T ⟨g, off, none⟩).run P w = .ok (.agg ⟨L⟩) w := by
    unfold loadVar
    subst hl
    cases d <;> simp [plainT] at hd <;> simp [isAgg, run_underlying hT, run_sizeOf hs, h1, Sem.run]
  simp [Rd, execOp, ho, hx, Instr.loadAt, Instr.sureAddr, Sem.run, this]
/-- Lengths. -/
theorem run_builtin {b : Builtin} {xs : Array Operand} {ts : Array TypeId} {v : Value} (ho : o.op = .call { callee := .builtin b, args := xs, argTypes := ts })
    (h : ∀ cs, (builtin b ts o.type cs (xs.map (ev n f))).run P w = .ok (.value v) w) : Rd P n f o w v := by
  simp [Rd, execOp, ho, resolve, invoke, h, Sem.run]
theorem rd_len {T E : TypeId} {A : Option Addr} {m c : Nat} (ho : o.op = .call { callee := .builtin .len, args := #[x], argTypes := #[T] }) (hx : ev n f x = .slice A m c) (hT : P.underlying T = some (.slice E)) : Rd P n f o w (.int .i64 (m : Int)) :=
  run_builtin ho fun cs => by simp [builtin, Builtin.len_, run_underlying hT, hx, goInt, Sem.run]
theorem rd_lenS {T : TypeId} {s : ByteArray} (ho : o.op = .call { callee := .builtin .len, args := #[x], argTypes := #[T] }) (hx : ev n f x = .string s) (hT : P.underlying T = some .string) : Rd P n f o w (.int .i64 (s.size : Int)) :=
  run_builtin ho fun cs => by simp [builtin, Builtin.len_, run_underlying hT, hx, goInt, Sem.run]
theorem rd_max {ts : Array TypeId} {k : IntKind} {p q : Int} (ho : o.op = .call { callee := .builtin .max, args := #[x, y], argTypes := ts }) (hx : ev n f x = .int k p) (hy : ev n f y = .int k q) : Rd P n f o w (.int k (max p q)) :=
  run_builtin ho fun cs => by
    have : (if p < q then q else p) = max p q := by rw [Int.max_def]; split <;> split <;> omega
    simp [builtin, Builtin.max_, Builtin.max2, hx, hy, Sem.run, this]
theorem rd_min {ts : Array TypeId} {k : IntKind} {p q : Int} (ho : o.op = .call { callee := .builtin .min, args := #[x, y], argTypes := ts }) (hx : ev n f x = .int k p) (hy : ev n f y = .int k q) : Rd P n f o w (.int k (min p q)) :=
  run_builtin ho fun cs => by
    have : (if q < p then q else p) = min p q := by rw [Int.min_def]; split <;> split <;> omega
    simp [builtin, Builtin.min_, Builtin.min2, hx, hy, Sem.run, this]
/-- The place of a slice's element, of an array's element. -/
theorem rd_indexS {T E : TypeId} {k : IntKind} {g b m c sz j : Nat} {i : Int} (ho : o.op = .indexAddr T x y) (hx : ev n f x = .slice (some ⟨g, b, none⟩) m c) (hy : ev n f y = .int k i)
    (hT : P.underlying T = some (.slice E)) (hs : (P.info? E).map (·.size) = some sz) (hi : i = (j : Int)) (hj : j < m) (off : Nat) (he : b + j * sz = off) : Rd P n f o w (.pointer (some ⟨g, off, none⟩)) := by
  subst hi
  have hadd : (⟨g, b, none⟩ : Addr).add (j * sz) = ⟨g, b + j * sz, none⟩ := by unfold Addr.add; split <;> simp_all
  subst he
  simp [Rd, execOp, ho, hx, hy, Instr.indexAt, asIntOf, run_underlying hT, run_sizeOf hs, hj, hadd, Sem.run]
theorem rd_indexA {T E : TypeId} {k : IntKind} {g b m sz j : Nat} {i : Int} (ho : o.op = .indexAddr T x y) (hx : ev n f x = .pointer (some ⟨g, b, none⟩)) (hy : ev n f y = .int k i)
    (hT : P.underlying T = some (.array m E)) (hs : (P.info? E).map (·.size) = some sz) (hi : i = (j : Int)) (hj : j < m) (off : Nat) (he : b + j * sz = off) : Rd P n f o w (.pointer (some ⟨g, off, none⟩)) := by
  subst hi
  have hadd : (⟨g, b, none⟩ : Addr).add (j * sz) = ⟨g, b + j * sz, none⟩ := by unfold Addr.add; split <;> simp_all
  subst he
  simp [Rd, execOp, ho, hx, hy, Instr.indexAt, Instr.sureAddr, asIntOf, run_underlying hT, run_sizeOf hs, hj, hadd, Sem.run]
/-- A byte of a string. -/
theorem rd_indexStr {T : TypeId} {k : IntKind} {s : ByteArray} {i : Int} {j : Nat} (ho : o.op = .index T x y) (hx : ev n f x = .string s) (hy : ev n f y = .int k i) (hT : P.underlying T = some .string) (hi : i = (j : Int)) (hj : j < s.size) :
    Rd P n f o w (.int .u8 (s[j].toNat : Int)) := by
  subst hi
  have : s[j]? = some s[j] := by simp [hj]
  simp [Rd, execOp, ho, hx, hy, Instr.index, asIntOf, run_underlying hT, this, Sem.run]
/-- Cuts of slices. -/
theorem run_bound {k : IntKind} {c : BoundsCode} {i : Int} {j m : Nat} (hi : i = (j : Int)) (hj : j ≤ m) : (Instr.sliceBound (.int k i) m c).run P w = .ok j w := by
  subst hi
  have : (j : Int) ≤ (m : Int) := by omega
  simp [Instr.sliceBound, asIntOf, this, Sem.run]
theorem run_bounds {b : Bool} {len cap lo hi : Nat} {vl vh : Option Value} (hl : (vl = none ∧ lo = 0) ∨ ∃ k i, vl = some (.int k i) ∧ i = (lo : Int)) (hh : (vh = none ∧ hi = len) ∨ ∃ k i, vh = some (.int k i) ∧ i = (hi : Int))
    (h1 : lo ≤ hi) (h2 : hi ≤ cap) : (Instr.sliceBounds b len cap vl vh none).run P w = .ok (lo, hi, cap) w := by
  rcases hl with ⟨rfl, rfl⟩ | ⟨k, i, rfl, hi'⟩ <;> rcases hh with ⟨rfl, rfl⟩ | ⟨k', i', rfl, hi''⟩
  · simp [Instr.sliceBounds, Sem.run]
  · simp [Instr.sliceBounds, Sem.run, run_bound (P := P) (w := w) hi'' h2]
  · simp [Instr.sliceBounds, Sem.run, run_bound (P := P) (w := w) hi' h1]
  · simp [Instr.sliceBounds, Sem.run, run_bound (P := P) (w := w) hi' h1, run_bound (P := P) (w := w) hi'' h2]
theorem rd_sliceS {T E : TypeId} {A : Option Addr} {m c lo hi sz : Nat} {xl xh : Option Operand} (ho : o.op = .slice T x xl xh none) (hx : ev n f x = .slice A m c) (hT : P.underlying T = some (.slice E)) (hs : (P.info? E).map (·.size) = some sz)
    (hl : (xl.map (ev n f) = none ∧ lo = 0) ∨ ∃ k i, xl.map (ev n f) = some (.int k i) ∧ i = (lo : Int)) (hh : (xh.map (ev n f) = none ∧ hi = m) ∨ ∃ k i, xh.map (ev n f) = some (.int k i) ∧ i = (hi : Int)) (h1 : lo ≤ hi) (h2 : hi ≤ c) :
    Rd P n f o w (.slice (if c = lo then A else A.map (·.add (lo * sz))) (hi - lo) (c - lo)) := by
  simp [Rd, execOp, ho, hx, Instr.sliceAt, Instr.slice, run_underlying hT, run_bounds (P := P) (w := w) (b := true) hl hh h1 h2, run_sizeOf hs, Sem.run]
theorem rd_sliceE {T E : TypeId} {A A2 : Option Addr} {m c lo hi sz m2 c2 : Nat} {xl xh : Option Operand} (ho : o.op = .slice T x xl xh none) (hx : ev n f x = .slice A m c) (hT : P.underlying T = some (.slice E)) (hs : (P.info? E).map (·.size) = some sz)
    (hl : (xl.map (ev n f) = none ∧ lo = 0) ∨ ∃ k i, xl.map (ev n f) = some (.int k i) ∧ i = (lo : Int)) (hh : (xh.map (ev n f) = none ∧ hi = m) ∨ ∃ k i, xh.map (ev n f) = some (.int k i) ∧ i = (hi : Int)) (h1 : lo ≤ hi) (h2 : hi ≤ c)
    (hA : (if c = lo then A else A.map (·.add (lo * sz))) = A2) (hm : hi - lo = m2) (hc : c - lo = c2) :
    Rd P n f o w (.slice A2 m2 c2) := by
  subst hA hm hc
  exact rd_sliceS ho hx hT hs hl hh h1 h2
theorem rd_sliceA {T E : TypeId} {g b m lo hi sz : Nat} {xl xh : Option Operand} (ho : o.op = .slice T x xl xh none) (hx : ev n f x = .pointer (some ⟨g, b, none⟩)) (hT : P.underlying T = some (.array m E)) (hs : (P.info? E).map (·.size) = some sz)
    (hl : (xl.map (ev n f) = none ∧ lo = 0) ∨ ∃ k i, xl.map (ev n f) = some (.int k i) ∧ i = (lo : Int)) (hh : (xh.map (ev n f) = none ∧ hi = m) ∨ ∃ k i, xh.map (ev n f) = some (.int k i) ∧ i = (hi : Int)) (h1 : lo ≤ hi) (h2 : hi ≤ m) (h3 : lo < m) (off : Nat) (he : b + lo * sz = off) :
    Rd P n f o w (.slice (some ⟨g, off, none⟩) (hi - lo) (m - lo)) := by
  have hadd : (⟨g, b, none⟩ : Addr).add (lo * sz) = ⟨g, b + lo * sz, none⟩ := by unfold Addr.add; split <;> simp_all
  subst he
  simp [Rd, execOp, ho, hx, Instr.sliceAt, Instr.sureAddr, run_underlying hT, run_bounds (P := P) (w := w) (b := false) hl hh h1 h2, run_sizeOf hs, Sem.run, hadd, show ¬ m = lo by omega]
theorem at_none {n : Nat} {f : Fm} : (Option.map (ev n f) none = none ∧ (0 : Nat) = 0) ∨ ∃ k i, Option.map (ev n f) none = some (.int k i) ∧ i = ((0 : Nat) : Int) := .inl ⟨rfl, rfl⟩
theorem to_none {n m : Nat} {f : Fm} : (Option.map (ev n f) none = none ∧ m = m) ∨ ∃ k i, Option.map (ev n f) none = some (.int k i) ∧ i = ((m : Nat) : Int) := .inl ⟨rfl, rfl⟩
theorem at_some {n : Nat} {f : Fm} {x : Operand} {k : IntKind} {i : Int} {j m : Nat} (hx : ev n f x = .int k i) (hi : i = (j : Int)) : (Option.map (ev n f) (some x) = none ∧ j = m) ∨ ∃ k i, Option.map (ev n f) (some x) = some (.int k i) ∧ i = (j : Int) :=
  .inr ⟨k, i, by simp [hx], hi⟩
/-- Equality of arrays of whole numbers. -/
theorem part_int {E : TypeId} {k : IntKind} (hE : P.underlying E = some (.int k)) (cs : Array Value) (j : Nat) {v : Value} (hv : cs[j]? = some v) : (part E cs j).run P w = .ok v w := by
  unfold part
  simp [isAgg, run_underlying hE, hv, Sem.run]
theorem run_items {E : TypeId} {k : IntKind} (hE : P.underlying E = some (.int k)) (d : Nat) (xs ys : List Int) (hl : xs.length = ys.length) : ∀ (m a : Nat), a + m = xs.length →
    (Op.eqItems (d + 1) E 1 ⟨xs.map (.int k)⟩ ⟨ys.map (.int k)⟩ (List.range' a m)).run P w = .ok (decide (xs.drop a = ys.drop a)) w
  | 0, a, h => by
    rw [List.drop_of_length_le (by omega), List.drop_of_length_le (by omega)]
    simp [Op.eqItems, Sem.run]
  | m + 1, a, h => by
    have ha : a < xs.length := by omega
    have hb : a < ys.length := by omega
    have h1 : (⟨xs.map (.int k)⟩ : Array Value)[a * 1]? = some (.int k xs[a]) := by simp [ha]
    have h2 : (⟨ys.map (.int k)⟩ : Array Value)[a * 1]? = some (.int k ys[a]) := by simp [hb]
    have ih := run_items hE d xs ys hl m (a + 1) (by omega)
    simp only [List.range'_succ, Op.eqItems, Sem.run_bind, part_int hE _ _ h1, part_int hE _ _ h2, Result.andThen_ok, run_equalIn_int w d E k k _ _ hE]
    have e1 : (xs.drop a = ys.drop a) ↔ (xs[a] = ys[a] ∧ xs.drop (a + 1) = ys.drop (a + 1)) := by
      rw [List.drop_eq_getElem_cons ha, List.drop_eq_getElem_cons hb, List.cons.injEq]
    by_cases e : xs[a] = ys[a]
    · simp [e1, e, ih]
    · simp [e1, e, Sem.run]
theorem bo_arr {T E : TypeId} {k : IntKind} {m : Nat} {xs ys : List Int} (hT : P.underlying T = some (.array m E)) (hE : P.underlying E = some (.int k)) (hs : (P.info? E).map (·.size) = some 1) (hg : P.eqGuardType P.depth T = false) (h1 : xs.length = m) (h2 : ys.length = m) :
    Bo P .eql T x y (.agg ⟨xs.map (.int k)⟩) (.agg ⟨ys.map (.int k)⟩) w (.bool (decide (xs = ys))) ∧ Bo P .neq T x y (.agg ⟨xs.map (.int k)⟩) (.agg ⟨ys.map (.int k)⟩) w (.bool (!decide (xs = ys))) := by
  obtain ⟨inf, hi, hs'⟩ := Option.map_eq_some_iff.1 hs
  have hc : P.cellsOf E = 1 := by simp [Program.cellsOf, hi, hs']
  have key : (Op.equalIn 10000 T (.agg ⟨xs.map (.int k)⟩) (.agg ⟨ys.map (.int k)⟩)).run P w = .ok (decide (xs = ys)) w := by
    rw [run_equalIn_array w 9999 _ _ hT hi, hc, List.range_eq_range', run_items hE 9998 xs ys (by omega) m 0 (by omega)]
    simp
  refine ⟨⟨run_eqGuard_agg w _ _ _ _ _ _ hg, ?_⟩, ⟨run_eqGuard_agg w _ _ _ _ _ _ hg, ?_⟩⟩
  · rw [run_eql_struct, key]; rfl
  · rw [run_neq_struct, key]; rfl
end reads
end Go.Mo
