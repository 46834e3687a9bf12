/- What is kept of a text: plain laws. -/
import Derived.Test.YtpagpmioopaciaaGreatPHeapS
import Derived.Laws.Bits64
import Derived.Laws.BitsLemmas
import Derived.Test.YtpagpmioopaciaaGreatPCloS
set_option linter.unusedVariables false
set_option linter.unusedSimpArgs false
namespace Go.Mo
/-- The cells of a text: its address, its size, its slots, its bound. -/
def textC (a : List UInt8) (s : Int) (sv : Value) (b : Int) : List Value := bys a ++ [.int .i64 s, sv, .int .i64 b]
def u64N (x : Int) : Nat := (x % 18446744073709551616).toNat
theorem u64_wrapN (x : Int) : IntKind.u64.wrap x = (u64N x : Int) := by rw [IntKind.wrap_u64, u64N]; omega
theorem u64N_lt (x : Int) : u64N x < 18446744073709551616 := by rw [u64N]; omega
theorem u64N_pos {x : Int} (h : 0 ≤ x) (h2 : x < 18446744073709551616) : u64N x = x.toNat := by rw [u64N, Int.emod_eq_of_lt h h2]
theorem str_eq (a b : List UInt8) : ((⟨a.toArray⟩ : ByteArray) = ⟨b.toArray⟩) ↔ a = b := by simp
end Go.Mo
set_option linter.unusedVariables false
set_option linter.unusedSimpArgs false
namespace Go.Mo
open Go.RowKit Go.Lib
inductive FT where
  | i (k : IntKind)
  | s
  | b
  | a (n : Nat)
inductive FV where
  | i (k : IntKind) (n : Int)
  | s (t : ByteArray)
  | b (v : Bool)
  | a (l : List UInt8)
def FV.cells : FV → List Value
  | .i k n => [.int k n]
  | .s t => [.string t]
  | .b v => [.bool v]
  | .a l => bys l
def FT.size : FT → Nat
  | .a n => n
  | _ => 1
def FV.ok : FV → FT → Prop
  | .i k _, .i k' => k = k'
  | .s _, .s => True
  | .b _, .b => True
  | .a l, .a n => l.length = n
  | _, _ => False
def fvEq : FV → FV → Bool
  | .i _ n, .i _ m => decide (n = m)
  | .s t, .s u => decide (t = u)
  | .b v, .b u => v == u
  | .a l, .a m => decide (l = m)
  | _, _ => false
def fvsEq : List FV → List FV → Bool
  | x :: xs, y :: ys => fvEq x y && fvsEq xs ys
  | _, _ => true
def fvsOk : List FV → List FT → Prop
  | x :: xs, t :: ts => x.ok t ∧ fvsOk xs ts
  | [], [] => True
  | _, _ => False
def fvC (l : List FV) : List Value := l.flatMap FV.cells
def FtAt (P : Program) (T : TypeId) : FT → Prop
  | .i k => P.underlying T = some (.int k)
  | .s => P.underlying T = some .string
  | .b => P.underlying T = some .bool
  | .a n => ∃ E, P.underlying T = some (.array n E) ∧ P.underlying E = some (.int .u8) ∧ (P.info? E).map (·.size) = some 1 ∧ (P.info? T).map (·.size) = some n
def ftB (P : Program) (T : TypeId) : FT → Bool
  | .i k => match P.underlying T with | some (.int k') => decide (k' = k) | _ => false
  | .s => match P.underlying T with | some .string => true | _ => false
  | .b => match P.underlying T with | some .bool => true | _ => false
  | .a n => match P.underlying T with | some (.array m E) => decide (m = n) && ((match P.underlying E with | some (.int .u8) => true | _ => false) && (decide ((P.info? E).map (·.size) = some 1) && decide ((P.info? T).map (·.size) = some n))) | _ => false
theorem ftAt_of {P : Program} {T : TypeId} {t : FT} (h : ftB P T t = true) : FtAt P T t := by
  cases t with
  | i k =>
    simp only [ftB] at h
    split at h
    · rename_i k' hk; show P.underlying T = _; rw [hk, of_decide_eq_true h]
    · cases h
  | s =>
    simp only [ftB] at h
    split at h
    · rename_i hk; exact hk
    · cases h
  | b =>
    simp only [ftB] at h
    split at h
    · rename_i hk; exact hk
    · cases h
  | a n =>
    simp only [ftB] at h
    split at h
    · rename_i m E hk
      simp only [Bool.and_eq_true, decide_eq_true_eq] at h
      obtain ⟨h1, h2, h3, h4⟩ := h
      subst h1
      refine ⟨E, hk, ?_, h3, h4⟩
      split at h2
      · rename_i hE; exact hE
      · cases h2
    · cases h
def FieldsOk (P : Program) : List Field → Nat → List FT → Prop
  | [], _, [] => True
  | f :: fs, off, t :: ts => f.name ≠ "_" ∧ f.offset = off ∧ FtAt P f.type t ∧ FieldsOk P fs (off + t.size) ts
  | _, _, _ => False
def fieldsB (P : Program) : List Field → Nat → List FT → Bool
  | [], _, [] => true
  | f :: fs, off, t :: ts => f.name != "_" && (f.offset == off && (ftB P f.type t && fieldsB P fs (off + t.size) ts))
  | _, _, _ => false
theorem fieldsOk_of {P : Program} : ∀ {fs : List Field} {off : Nat} {ts : List FT}, fieldsB P fs off ts = true → FieldsOk P fs off ts
  | [], _, [], _ => trivial
  | [], _, _ :: _, h => by cases h
  | _ :: _, _, [], h => by cases h
  | f :: fs, off, t :: ts, h => by
    simp only [fieldsB, Bool.and_eq_true, bne_iff_ne, beq_iff_eq] at h
    exact ⟨h.1, h.2.1, ftAt_of h.2.2.1, fieldsOk_of h.2.2.2⟩
def FlatAt (P : Program) (T : Nat) (ts : List FT) : Prop := ∃ fs : Array Field, P.underlying T = some (.struct fs) ∧ P.stoodInHeld T = false ∧ P.eqGuardType P.depth T = false ∧ FieldsOk P fs.toList 0 ts
def flatB (P : Program) (T : Nat) (ts : List FT) : Bool :=
  match P.underlying T with
  | some (.struct fs) => !P.stoodInHeld T && (!P.eqGuardType P.depth T && fieldsB P fs.toList 0 ts)
  | _ => false
theorem flatAt_of {P : Program} {T : Nat} {ts : List FT} (h : flatB P T ts = true) : FlatAt P T ts := by
  unfold flatB at h
  split at h
  · rename_i fs hu
    simp only [Bool.and_eq_true, Bool.not_eq_true'] at h
    exact ⟨fs, hu, h.1, h.2.1, fieldsOk_of h.2.2⟩
  · cases h
theorem part_agg {P : Program} {w : World} {T E : TypeId} {n : Nat} (hT : P.underlying T = some (.array n E)) (hs : (P.info? T).map (·.size) = some n) (a l r : List Value) (hl : l.length = n) : (part T ⟨a ++ (l ++ r)⟩ a.length).run P w = .ok (.agg ⟨l⟩) w := by
  obtain ⟨inf, hi, hs'⟩ := Option.map_eq_some_iff.1 hs
  have hc : P.cellsOf T = n := by simp [Program.cellsOf, hi, hs']
  have hz : (sizeOf T).run P w = .ok n w := by simp [sizeOf, typeInfo, hi, hs']
  have he : (⟨a ++ (l ++ r)⟩ : Array Value).extract a.length (a.length + n) = ⟨l⟩ := by
    subst hl
    apply Array.ext'
    simp
  simp only [part, isAgg, Sem.run_bind, run_underlying hT, Result.andThen_ok, Sem.run_pure, if_true, hz, he]
theorem step_flat {P : Program} {w : World} {T : TypeId} {t : FT} {x y : FV} (a b rx ry : List Value) (h : FtAt P T t) (hx : x.ok t) (hy : y.ok t) : ∃ va vb, (part T ⟨a ++ (x.cells ++ rx)⟩ a.length).run P w = .ok va w ∧ (part T ⟨b ++ (y.cells ++ ry)⟩ b.length).run P w = .ok vb w ∧ (Op.equalIn 9999 T va vb).run P w = .ok (fvEq x y) w := by
  have hd : ∀ (a r : List Value) (v : Value), (⟨a ++ ([v] ++ r)⟩ : Array Value)[a.length]? = some v := fun a r v => by simp
  cases t with
  | i k =>
    cases x <;> try exact absurd hx id
    cases y <;> try exact absurd hy id
    rename_i k1 n k2 m
    obtain rfl : k1 = k := hx
    obtain rfl : k2 = k1 := hy
    refine ⟨_, _, run_part_int h (hd a rx _), run_part_int h (hd b ry _), ?_⟩
    rw [run_equalIn_int w 9998 T _ _ n m h]
    have e : (n == m) = decide (n = m) := by first | rfl | exact beq_eq_decide _ _
    rw [e]; rfl
  | s =>
    cases x <;> try exact absurd hx id
    cases y <;> try exact absurd hy id
    rename_i t u
    refine ⟨_, _, run_part_plain h rfl (hd a rx _), run_part_plain h rfl (hd b ry _), ?_⟩
    rw [run_equalIn_string w 9998 T t u h, bytes_beq]; rfl
  | b =>
    cases x <;> try exact absurd hx id
    cases y <;> try exact absurd hy id
    rename_i t u
    refine ⟨_, _, run_part_plain h rfl (hd a rx _), run_part_plain h rfl (hd b ry _), ?_⟩
    rw [run_equalIn_bool w 9998 T t u h]; rfl
  | a n =>
    cases x <;> try exact absurd hx id
    cases y <;> try exact absurd hy id
    rename_i l m
    obtain ⟨E, hT, hE, hs, hz⟩ := h
    have hl : l.length = n := hx
    have hm : m.length = n := hy
    refine ⟨_, _, part_agg hT hz a (bys l) rx (by rw [bys_length, hl]), part_agg hT hz b (bys m) ry (by rw [bys_length, hm]), ?_⟩
    obtain ⟨inf, hi, hs'⟩ := Option.map_eq_some_iff.1 hs
    have hc : P.cellsOf E = 1 := by simp [Program.cellsOf, hi, hs']
    have e : ∀ l : List UInt8, (l.map fun u => (u.toNat : Int)).map (Value.int .u8) = bys l := fun l => by simp [bys, List.map_map, Function.comp_def]
    have key := run_items (P := P) (w := w) hE 9997 (l.map fun u => (u.toNat : Int)) (m.map fun u => (u.toNat : Int)) (by simp [hl, hm]) n 0 (by simp [hl])
    rw [e, e] at key
    rw [run_equalIn_array w 9998 _ _ hT hi, hc, List.range_eq_range', key]
    simp only [List.drop_zero, fvEq]
    congr 1
    rw [decide_eq_decide]
    exact ⟨fun hq => bys_inj (by rw [← e l, ← e m, hq]), fun hq => by rw [hq]⟩
theorem run_flat {P : Program} {w : World} : ∀ (fs : List Field) (ts : List FT) (xs ys : List FV) (a b : List Value), a.length = b.length → FieldsOk P fs a.length ts → fvsOk xs ts → fvsOk ys ts → (x y : List Value) → x = a ++ fvC xs → y = b ++ fvC ys →
    (Op.eqFields 9999 ⟨x⟩ ⟨y⟩ fs).run P w = .ok (fvsEq xs ys) w
  | [], [], [], [], a, b, _, _, _, _, _, _, _, _ => by simp [Op.eqFields, fvsEq, Sem.run]
  | [], [], _ :: _, _, _, _, _, _, h, _, _, _, _, _ => absurd h id
  | [], [], [], _ :: _, _, _, _, _, _, h, _, _, _, _ => absurd h id
  | [], _ :: _, _, _, _, _, _, h, _, _, _, _, _, _ => absurd h id
  | _ :: _, [], _, _, _, _, _, h, _, _, _, _, _, _ => absurd h id
  | _ :: _, _ :: _, [], _, _, _, _, _, h, _, _, _, _, _ => absurd h id
  | _ :: _, _ :: _, _ :: _, [], _, _, _, _, _, h, _, _, _, _ => absurd h id
  | f :: fs, t :: ts, u :: us, v :: vs, a, b, hab, hf, hx, hy, x, y, ex, ey => by
    subst ex ey
    obtain ⟨f1, f2, f3, f4⟩ := hf
    obtain ⟨va, vb, p1, p2, p3⟩ := step_flat (w := w) a b (fvC us) (fvC vs) f3 hx.1 hy.1
    have lu : ∀ {z : FV}, z.ok t → z.cells.length = t.size := by
      intro z hz
      cases z <;> cases t <;> first | exact absurd hz id | rfl | (simp only [FV.cells, bys_length, FT.size]; exact hz)
    have ih := run_flat (P := P) (w := w) fs ts us vs (a ++ u.cells) (b ++ v.cells) (by simp only [List.length_append, lu hx.1, lu hy.1]; omega) (by rw [List.length_append, lu hx.1]; exact f4) hx.2 hy.2 (a ++ fvC (u :: us)) (b ++ fvC (v :: vs)) (by simp [fvC]) (by simp [fvC])
    have e1 : fvC (u :: us) = u.cells ++ fvC us := by simp [fvC]
    have e2 : fvC (v :: vs) = v.cells ++ fvC vs := by simp [fvC]
    have p2' : (part f.type ⟨b ++ fvC (v :: vs)⟩ f.offset).run P w = .ok vb w := by rw [f2, hab, e2]; exact p2
    have p1' : (part f.type ⟨a ++ fvC (u :: us)⟩ f.offset).run P w = .ok va w := by rw [f2, e1]; exact p1
    simp only [Op.eqFields, if_pos f1, Sem.run_bind, p1', p2', Result.andThen_ok, p3, fvsEq]
    cases fvEq u v with
    | false => simp [Sem.run]
    | true => simp [ih]
theorem bo_flat {P : Program} {T : TypeId} {ts : List FT} {xs ys : List FV} {w : World} {x y : Operand} (hT : FlatAt P T ts) (h1 : fvsOk xs ts) (h2 : fvsOk ys ts) :
    Bo P .eql T x y (.agg ⟨fvC xs⟩) (.agg ⟨fvC ys⟩) w (.bool (fvsEq xs ys)) ∧ Bo P .neq T x y (.agg ⟨fvC xs⟩) (.agg ⟨fvC ys⟩) w (.bool (!fvsEq xs ys)) := by
  obtain ⟨fs, hu, hst, hg, hf⟩ := hT
  have hfo : P.fieldsOf T = fs := by simp [Program.fieldsOf, hu]
  have key := run_flat (P := P) (w := w) fs.toList ts xs ys [] [] rfl hf h1 h2 (fvC xs) (fvC ys) rfl rfl
  have he := run_equalIn_struct (P := P) w 9999 T ⟨fvC xs⟩ ⟨fvC ys⟩ (by rw [hfo]; exact hu) hst
  rw [hfo, key] at he
  constructor
  · exact bo_of (run_eqGuard_agg w _ T x y _ _ hg) (by rw [run_eql_struct, he]; rfl)
  · exact bo_of (run_eqGuard_agg w _ T x y _ _ hg) (by rw [run_neq_struct, he]; rfl)
end Go.Mo
