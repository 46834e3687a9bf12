/- Structs of numbers, texts, bits and rows of bytes: when two are equal. -/
import Derived.Test.YtdbkmpnknkldlaaHClassS
set_option linter.unusedVariables false
set_option linter.unusedSimpArgs false
namespace Go.Mo
open Go.RowKit Go.Lib
inductive FT where
  | i (k : IntKind)
  | s
  | b
  | a (n : Nat)
inductive FV where
  | i (k : IntKind) (n : Int)
  | s (t : ByteArray)
  | b (v : Bool)
  | a (l : List UInt8)
def FV.cells : FV → List Value
  | .i k n => [.int k n]
  | .s t => [.string t]
  | .b v => [.bool v]
  | .a l => bys l
def FT.size : FT → Nat
  | .a n => n
  | _ => 1
def FV.ok : FV → FT → Prop
  | .i k _, .i k' => k = k'
  | .s _, .s => True
  | .b _, .b => True
  | .a l, .a n => l.length = n
  | _, _ => False
def fvEq : FV → FV → Bool
  | .i _ n, .i _ m => decide (n = m)
  | .s t, .s u => decide (t = u)
  | .b v, .b u => v == u
  | .a l, .a m => decide (l = m)
  | _, _ => false
def fvsEq : List FV → List FV → Bool
  | x :: xs, y :: ys => fvEq x y && fvsEq xs ys
  | _, _ => true
def fvsOk : List FV → List FT → Prop
  | x :: xs, t :: ts => x.ok t ∧ fvsOk xs ts
  | [], [] => True
  | _, _ => False
def fvC (l : List FV) : List Value := l.flatMap FV.cells
def FtAt (P : Program) (T : TypeId) : FT → Prop
  | .i k => P.underlying T = some (.int k)
  | .s => P.underlying T = some .string
  | .b => P.underlying T = some .bool
  | .a n => ∃ E, P.underlying T = some (.array n E) ∧ P.underlying E = some (.int .u8) ∧ (P.info? E).map (·.size) = some 1 ∧ (P.info? T).map (·.size) = some n
def ftB (P : Program) (T : TypeId) : FT → Bool
  | .i k => match P.underlying T with | some (.int k') => decide (k' = k) | _ => false
  | .s => match P.underlying T with | some .string => true | _ => false
  | .b => match P.underlying T with | some .bool => true | _ => false
  | .a n => match P.underlying T with | some (.array m E) => decide (m = n) && ((match P.underlying E with | some (.int .u8) => true | _ => false) && (decide ((P.info? E).map (·.size) = some 1) && decide ((P.info? T).map (·.size) = some n))) | _ => false
theorem ftAt_of {P : Program} {T : TypeId} {t : FT} (h : ftB P T t = true) : FtAt P T t := by
  cases t with
  | i k =>
    simp only [ftB] at h
    split at h
    · rename_i k' hk; show P.underlying T = _; rw [hk, of_decide_eq_true h]
    · cases h
  | s =>
    simp only [ftB] at h
    split at h
    · rename_i hk; exact hk
    · cases h
  | b =>
    simp only [ftB] at h
    split at h
    · rename_i hk; exact hk
    · cases h
  | a n =>
    simp only [ftB] at h
    split at h
    · rename_i m E hk
      simp only [Bool.and_eq_true, decide_eq_true_eq] at h
      obtain ⟨h1, h2, h3, h4⟩ := h
      subst h1
      refine ⟨E, hk, ?_, h3, h4⟩
      split at h2
      · rename_i hE; exact hE
      · cases h2
    · cases h
def FieldsOk (P : Program) : List Field → Nat → List FT → Prop
  | [], _, [] => True
  | f :: fs, off, t :: ts => f.name ≠ "_" ∧ f.offset = off ∧ FtAt P f.type t ∧ FieldsOk P fs (off + t.size) ts
  | _, _, _ => False
def fieldsB (P : Program) : List Field → Nat → List FT → Bool
  | [], _, [] => true
  | f :: fs, off, t :: ts => f.name != "_" && (f.offset == off && (ftB P f.type t && fieldsB P fs (off + t.size) ts))
  | _, _, _ => false
theorem fieldsOk_of {P : Program} : ∀ {fs : List Field} {off : Nat} {ts : List FT}, fieldsB P fs off ts = true → FieldsOk P fs off ts
  | [], _, [], _ => trivial
  | [], _, _ :: _, h => by cases h
  | _ :: _, _, [], h => by cases h
  | f :: fs, off, t :: ts, h => by
    simp only [fieldsB, Bool.and_eq_true, bne_iff_ne, beq_iff_eq] at h
    exact ⟨h.1, h.2.1, ftAt_of h.2.2.1, fieldsOk_of h.2.2.2⟩
def FlatAt (P : Program) (T : Nat) (ts : List FT) : Prop := ∃ fs : Array Field, P.underlying T = some (.struct fs) ∧ P.stoodInHeld T = false ∧ P.eqGuardType P.depth T = false ∧ FieldsOk P fs.toList 0 ts
def flatB (P : Program) (T : Nat) (ts : List FT) : Bool :=
  match P.underlying T with
  | some (.struct fs) => !P.stoodInHeld T && (!P.eqGuardType P.depth T && fieldsB P fs.toList 0 ts)
  | _ => false
theorem flatAt_of {P : Program} {T : Nat} {ts : List FT} (h : flatB P T ts = true) : FlatAt P T ts := by
  unfold flatB at h
  split at h
  · rename_i fs hu
    simp only [Bool.and_eq_true, Bool.not_eq_true'] at h
    exact ⟨fs, hu, h.1, h.2.1, fieldsOk_of h.2.2⟩
  · cases h
end Go.Mo
