/- The laws of the operations: what each yields, and what it does to what is owned. Nothing of the program stands here. -/
import Derived.Test.YtpagpmioopaciaaGMem
import Derived.Laws.BitsLemmas
import Derived.ChangeKeysEq
set_option linter.unusedVariables false
set_option linter.unusedSimpArgs false
namespace Go.Mo
open Go.RowKit
section reads
variable {P : Program} {n : Nat} {f : Fm} {w : World} {o : Oper} {x y : Operand}
theorem rd_move {v : Value} (ho : o.op = .move x) (hx : ev n f x = v) : Rd P n f o w v := by simp [Rd, execOp, ho, hx, Sem.run]
theorem rd_assign {v : Value} (ho : o.op = .assign x) (hx : ev n f x = v) : Rd P n f o w v := by simp [Rd, execOp, ho, hx, Sem.run]
theorem rd_pickT {c : Operand} {v : Value} (ho : o.op = .pick c x y) (hc : ev n f c = .bool true) (hx : ev n f x = v) : Rd P n f o w v := by
  simp [Rd, execOp, ho, hc, hx, asBool, Sem.run]
theorem rd_pickF {c : Operand} {v : Value} (ho : o.op = .pick c x y) (hc : ev n f c = .bool false) (hy : ev n f y = v) : Rd P n f o w v := by
  simp [Rd, execOp, ho, hc, hy, asBool, Sem.run]
theorem rd_nilCheck {a : Addr} (ho : o.op = .nilCheck x) (hx : ev n f x = .pointer (some a)) : Rd P n f o w (.pointer (some a)) := by simp [Rd, execOp, ho, hx, Sem.run]
theorem rd_extract {vs : Array Value} {i : Nat} {v : Value} (ho : o.op = .extract x i) (hx : ev n f x = .tuple vs) (hv : vs[i]? = some v) : Rd P n f o w v := by
  simp [Rd, execOp, ho, hx, Instr.extract, hv, Sem.run]
theorem rd_not {T : TypeId} {b : Bool} (ho : o.op = .unOp .not T x) (hx : ev n f x = .bool b) : Rd P n f o w (.bool (!b)) := by simp [Rd, execOp, ho, hx, Op.unary, Sem.run]
/-- What an operator makes of two values. -/
def Bo (P : Program) (op : BinOp) (T : TypeId) (x y : Operand) (a b : Value) (w : World) (v : Value) : Prop := (eqGuard op T x y a b).run P w = .ok () w ∧ (binOp op T a b).run P w = .ok v w
theorem rd_bin {op : BinOp} {T U : TypeId} {a b v : Value} (ho : o.op = .binOp op T x y U) (hx : ev n f x = a) (hy : ev n f y = b) (hb : Bo P op T x y a b w v) : Rd P n f o w v := by
  obtain ⟨h1, h2⟩ := hb
  simp [Rd, execOp, ho, hx, hy, h1, h2, Sem.run]
theorem bo_of {op : BinOp} {T : TypeId} {a b v : Value} (hg : (eqGuard op T x y a b).run P w = .ok () w) (h : (binOp op T a b).run P w = .ok v w) : Bo P op T x y a b w v := ⟨hg, h⟩
theorem guard_int {op : BinOp} {T : TypeId} {k k' : IntKind} {p q : Int} : (eqGuard op T x y (.int k p) (.int k' q)).run P w = .ok () w := by cases op <;> simp [eqGuard, Sem.run]
theorem guard_str {op : BinOp} {T : TypeId} {p q : ByteArray} : (eqGuard op T x y (.string p) (.string q)).run P w = .ok () w := by cases op <;> simp [eqGuard, Sem.run]
theorem guard_bool {op : BinOp} {T : TypeId} {p q : Bool} : (eqGuard op T x y (.bool p) (.bool q)).run P w = .ok () w := by cases op <;> simp [eqGuard, Sem.run]
section ints
variable {T : TypeId} {k : IntKind} {p q : Int}
theorem bo_add : Bo P .add T x y (.int k p) (.int k q) w (.int k (k.wrap (p + q))) := bo_of guard_int (by simp [binOp, Op.intArith, Sem.run])
theorem bo_add64 (h : -9223372036854775808 ≤ p + q ∧ p + q ≤ 9223372036854775807) : Bo P .add T x y (.int .i64 p) (.int .i64 q) w (.int .i64 (p + q)) := by
  have := bo_add (P := P) (w := w) (x := x) (y := y) (T := T) (k := .i64) (p := p) (q := q); rwa [IntWalk.i64_in _ h] at this
theorem bo_eql : Bo P .eql T x y (.int k p) (.int k q) w (.bool (decide (p = q))) := bo_of guard_int (by simp [binOp, Op.intCmp, Sem.run]; rfl)
theorem bo_neq : Bo P .neq T x y (.int k p) (.int k q) w (.bool (!decide (p = q))) := bo_of guard_int (by simp [binOp, Op.intCmp, Sem.run]; rfl)
theorem bo_lss : Bo P .lss T x y (.int k p) (.int k q) w (.bool (decide (p < q))) := bo_of guard_int (by simp [binOp, Op.intCmp, Sem.run])
theorem bo_leq : Bo P .leq T x y (.int k p) (.int k q) w (.bool (decide (p ≤ q))) := bo_of guard_int (by simp [binOp, Op.intCmp, Sem.run])
theorem bo_gtr : Bo P .gtr T x y (.int k p) (.int k q) w (.bool (decide (q < p))) := bo_of guard_int (by simp [binOp, Op.intCmp, Sem.run])
theorem bo_geq : Bo P .geq T x y (.int k p) (.int k q) w (.bool (decide (q ≤ p))) := bo_of guard_int (by simp [binOp, Op.intCmp, Sem.run])
theorem bo_and : Bo P .and T x y (.int k p) (.int k q) w (.int k (k.wrap (BitVec.ofInt k.bits p &&& BitVec.ofInt k.bits q).toNat)) := bo_of guard_int (by simp [binOp, Op.intBits, Sem.run])
theorem bo_or : Bo P .or T x y (.int k p) (.int k q) w (.int k (k.wrap (BitVec.ofInt k.bits p ||| BitVec.ofInt k.bits q).toNat)) := bo_of guard_int (by simp [binOp, Op.intBits, Sem.run])
theorem bo_shl {k' : IntKind} (h : 0 ≤ q) : Bo P .shl T x y (.int k p) (.int k' q) w (.int k (k.wrap (p * 2 ^ min q.toNat k.bits))) :=
  bo_of guard_int (by simp [binOp, Op.shift, Sem.run, show ¬ q < 0 by omega])
theorem bo_shr {k' : IntKind} (h : 0 ≤ q) (hp : 0 ≤ p) : Bo P .shr T x y (.int k p) (.int k' q) w (.int k (p / 2 ^ min q.toNat k.bits)) :=
  bo_of guard_int (by
    have e : p.fdiv (2 ^ min q.toNat k.bits) = p / 2 ^ min q.toNat k.bits := Int.fdiv_eq_ediv_of_nonneg _ (Int.le_of_lt (Int.pow_pos (by decide)))
    simp [binOp, Op.shift, Sem.run, show ¬ q < 0 by omega, e])
end ints
theorem toList_beq (p q : ByteArray) : (p.toList == q.toList) = decide (p = q) := by
  rw [Bool.eq_iff_iff]
  simp only [beq_iff_eq, decide_eq_true_eq]
  constructor
  · intro h
    rw [ByteArray.toList_eq, ByteArray.toList_eq] at h
    cases p; cases q; congr 1; exact Array.toList_inj.1 h
  · rintro rfl; rfl
theorem bo_seql {T : TypeId} {p q : ByteArray} : Bo P .eql T x y (.string p) (.string q) w (.bool (decide (p = q))) := bo_of guard_str (by simp [binOp, Op.stringOp, Sem.run, toList_beq])
theorem bo_sneq {T : TypeId} {p q : ByteArray} : Bo P .neq T x y (.string p) (.string q) w (.bool (!decide (p = q))) := bo_of guard_str (by simp [binOp, Op.stringOp, Sem.run, toList_beq])
theorem bo_beql {T : TypeId} {p q : Bool} (hT : P.underlying T = some .bool) : Bo P .eql T x y (.bool p) (.bool q) w (.bool (p == q)) :=
  bo_of guard_bool (by simp only [binOp]; simp [run_equal_bool w T p q hT])
theorem bo_bneq {T : TypeId} {p q : Bool} (hT : P.underlying T = some .bool) : Bo P .neq T x y (.bool p) (.bool q) w (.bool (!(p == q))) :=
  bo_of guard_bool (by simp only [binOp]; simp [run_equal_bool w T p q hT])
/-- A pointer that is not nil, held against nil. -/
theorem bo_pnil {T E : TypeId} {a : Addr} (hT : P.underlying T = some (.pointer E)) : Bo P .eql T x y (.pointer (some a)) (.pointer none) w (.bool false) := by
  have h : P.underlying T = some (.pointer (P.pointee T)) := by rw [hT]; simp [Program.pointee, hT]
  exact bo_of (by simp [eqGuard, Sem.run]) (run_eql_pointer_nil w T (some a) h)
/-- Field i of the struct T lies 'off' cells behind its head; its type takes cells. -/
def FieldAt (P : Program) (T i off : Nat) : Prop := ∃ fs fd sz, P.underlying T = some (.struct fs) ∧ fs[i]? = some fd ∧ fd.offset = off ∧ (P.info? fd.type).map (·.size) = some sz ∧ (sz == 0) = false
theorem fieldAt {T i off : Nat} {fs : Array Field} {fd : Field} {sz : Nat} (h1 : P.underlying T = some (.struct fs)) (h2 : fs[i]? = some fd) (h3 : fd.offset = off) (h4 : (P.info? fd.type).map (·.size) = some sz) (h5 : (sz == 0) = false) : FieldAt P T i off := ⟨fs, fd, sz, h1, h2, h3, h4, h5⟩
/-- The place of a field. -/
theorem rd_field {T : TypeId} {g off i fo : Nat} (ho : o.op = .fieldAddr T x i) (hx : ev n f x = .pointer (some ⟨g, off, none⟩)) (hf : FieldAt P T i fo) (off' : Nat) (he : off + fo = off') : Rd P n f o w (.pointer (some ⟨g, off', none⟩)) := by
  obtain ⟨fs, fd, sz, hT, hf, rfl, hs, h0⟩ := hf
  obtain ⟨inf, hi, rfl⟩ := Option.map_eq_some_iff.1 hs
  have h0' : ¬ inf.size = 0 := by simpa using h0
  have ha : (⟨g, off, none⟩ : Addr).add fd.offset = ⟨g, off + fd.offset, none⟩ := by unfold Addr.add; split <;> simp_all
  subst he
  simp [Rd, execOp, ho, hx, Instr.fieldAt, run_underlying hT, hf, Instr.sureAddr, fieldPlace, sizeOf, typeInfo, hi, h0', ha, Sem.run, program]
theorem run_sizeOf {T sz : Nat} (hs : (P.info? T).map (·.size) = some sz) : (sizeOf T).run P w = .ok sz w := by
  obtain ⟨inf, hi, rfl⟩ := Option.map_eq_some_iff.1 hs
  simp [sizeOf, typeInfo, hi, Sem.run, program]
theorem run_isAgg {T : TypeId} {d : TypeDesc} (h : P.underlying T = some d) : (isAgg T).run P w = .ok (match d with | .struct _ | .array _ _ => true | _ => false) w := by
  cases d <;> simp [isAgg, run_underlying h, Sem.run]
def plainT : TypeDesc → Bool
  | .struct _ | .array _ _ => false
  | _ => true
/-- A load of one cell. -/
theorem rd_load {T : TypeId} {a : Addr} {d : TypeDesc} {v : Value} (ho : o.op = .load T x) (hx : ev n f x = .pointer (some a)) (hT : P.underlying T = some d) (hd : plainT d = true) (hc : w.cell? a = some v) : Rd P n f o w v := by
  have : (loadVar T a).run P w = .ok v w := by
    unfold loadVar
    cases d <;> simp [plainT] at hd <;> simp [isAgg, run_underlying hT, load, Sem.run, hc]
  simp [Rd, execOp, ho, hx, Instr.loadAt, Instr.sureAddr, Sem.run, this]
/-- A load of a struct or an array. -/
theorem rd_loadN {T : TypeId} {g off sz : Nat} {d : TypeDesc} {L : List Value} (ho : o.op = .load T x) (hx : ev n f x = .pointer (some ⟨g, off, none⟩)) (hT : P.underlying T = some d) (hd : plainT d = false)
    (hs : (P.info? T).map (·.size) = some sz) (hl : L.length = sz) (hc : ∀ j u, L[j]? = some u → w.cell? ⟨g, off + j, none⟩ = some u) : Rd P n f o w (.agg ⟨L⟩) := by
  have hadd : ∀ j, (⟨g, off, none⟩ : Addr).add j = ⟨g, off + j, none⟩ := fun j => by unfold Addr.add; split <;> simp_all
  have h1 := run_loadCells_list (P := P) (w := w) ⟨g, off, none⟩ L fun j u hj => by rw [hadd]; exact hc j u hj
  have : (loadVar T ⟨g, off, none⟩).run P w = .ok (.agg ⟨L⟩) w := by
    unfold loadVar
    subst hl
    cases d <;> simp [plainT] at hd <;> simp [isAgg, run_underlying hT, run_sizeOf hs, h1, Sem.run]
  simp [Rd, execOp, ho, hx, Instr.loadAt, Instr.sureAddr, Sem.run, this]
/-- Lengths. -/
theorem run_builtin {b : Builtin} {xs : Array Operand} {ts : Array TypeId} {v : Value} (ho : o.op = .call { callee := .builtin b, args := xs, argTypes := ts })
    (h : ∀ cs, (builtin b ts o.type cs (xs.map (ev n f))).run P w = .ok (.value v) w) : Rd P n f o w v := by
  simp [Rd, execOp, ho, resolve, invoke, h, Sem.run]
theorem rd_len {T E : TypeId} {A : Option Addr} {m c : Nat} (ho : o.op = .call { callee := .builtin .len, args := #[x], argTypes := #[T] }) (hx : ev n f x = .slice A m c) (hT : P.underlying T = some (.slice E)) : Rd P n f o w (.int .i64 (m : Int)) :=
  run_builtin ho fun cs => by simp [builtin, Builtin.len_, run_underlying hT, hx, goInt, Sem.run]
theorem rd_lenS {T : TypeId} {s : ByteArray} (ho : o.op = .call { callee := .builtin .len, args := #[x], argTypes := #[T] }) (hx : ev n f x = .string s) (hT : P.underlying T = some .string) : Rd P n f o w (.int .i64 (s.size : Int)) :=
  run_builtin ho fun cs => by simp [builtin, Builtin.len_, run_underlying hT, hx, goInt, Sem.run]
/-- The place of a slice's element, of an array's element. -/
theorem rd_indexS {T E : TypeId} {k : IntKind} {g b m c sz j : Nat} {i : Int} (ho : o.op = .indexAddr T x y) (hx : ev n f x = .slice (some ⟨g, b, none⟩) m c) (hy : ev n f y = .int k i)
    (hT : P.underlying T = some (.slice E)) (hs : (P.info? E).map (·.size) = some sz) (hi : i = (j : Int)) (hj : j < m) (off : Nat) (he : b + j * sz = off) : Rd P n f o w (.pointer (some ⟨g, off, none⟩)) := by
  subst hi
  have hadd : (⟨g, b, none⟩ : Addr).add (j * sz) = ⟨g, b + j * sz, none⟩ := by unfold Addr.add; split <;> simp_all
  subst he
  simp [Rd, execOp, ho, hx, hy, Instr.indexAt, asIntOf, run_underlying hT, run_sizeOf hs, hj, hadd, Sem.run]
/-- A byte of a string. -/
theorem rd_indexStr {T : TypeId} {k : IntKind} {s : ByteArray} {i : Int} {j : Nat} (ho : o.op = .index T x y) (hx : ev n f x = .string s) (hy : ev n f y = .int k i) (hT : P.underlying T = some .string) (hi : i = (j : Int)) (hj : j < s.size) :
    Rd P n f o w (.int .u8 (s[j].toNat : Int)) := by
  subst hi
  have : s[j]? = some s[j] := by simp [hj]
  simp [Rd, execOp, ho, hx, hy, Instr.index, asIntOf, run_underlying hT, this, Sem.run]
end reads
end Go.Mo
