/- Numbers and texts as bytes: plain lists. -/
import Derived.Test.YtpagpmioopaciaaQMore
set_option linter.unusedVariables false
set_option linter.unusedSimpArgs false
namespace Go.Mo
/-- The number n in k bytes, the lowest first. -/
def putL : Nat → Nat → List UInt8
  | _, 0 => []
  | n, k + 1 => UInt8.ofNat n :: putL (n / 256) k
theorem splice_one {α : Type} (A : List α) (k : Nat) (x y : α) (B : List α) (h : A.length = k) : splice (A ++ x :: B) k [y] = A ++ y :: B := by
  subst h
  simp only [splice, List.take_left, List.length_singleton, List.singleton_append]
  congr 2
  rw [List.drop_append]
  simp
/-- The number of bytes, the lowest first. -/
def getL : List UInt8 → Nat
  | [] => 0
  | b :: l => b.toNat + 256 * getL l
/-- Are all noughts? -/
def zeroL (l : List UInt8) : Bool := l.all (· == 0)
/-- A text padded: its length, it, noughts. -/
def padOk (n : Nat) (size : Int) : Bool := decide (1 ≤ size ∧ size ≤ 256 ∧ (n : Int) ≤ size - 1)
def padL (s : List UInt8) (size : Int) : List UInt8 := if padOk s.length size then UInt8.ofNat s.length :: (s ++ List.replicate (size.toNat - 1 - s.length) 0) else []
/-- The text that stands so in bytes. -/
def unpadOk : List UInt8 → Bool
  | [] => false
  | b :: r => decide (b.toNat ≤ r.length) && zeroL (r.drop b.toNat)
def unpadL : List UInt8 → List UInt8
  | [] => []
  | b :: r => if unpadOk (b :: r) then r.take b.toNat else []
def curOk (bad : Bool) (l : List UInt8) (k : Int) : Bool := !bad && decide (0 ≤ k ∧ k ≤ l.length)
def curOut (bad : Bool) (l : List UInt8) (k : Int) : List UInt8 := if curOk bad l k then l.take k.toNat else List.replicate (min (max k 0) 256).toNat 0
def curL (bad : Bool) (l : List UInt8) (k : Int) : List UInt8 := if curOk bad l k then l.drop k.toNat else l
def curNum (bad : Bool) (l : List UInt8) (k : Int) : Nat := getL ((curOut bad l k).take 8)
def curText (bad : Bool) (l : List UInt8) (k : Int) : List UInt8 := unpadL (curOut bad l k)
def curTextBad (bad : Bool) (l : List UInt8) (k : Int) : Bool := !curOk bad l k || !unpadOk (curOut bad l k)
theorem u64_nat (x : Nat) (h : x < 18446744073709551616) : IntKind.u64.wrap (x : Int) = x := IntWalk.u64_in _ (by omega)
theorem or_val (G b : Nat) (hG : G < 72057594037927936) (hb : b < 256) : IntKind.u64.wrap ((BitVec.ofInt 64 (IntKind.u64.wrap ((G : Int) * 2 ^ min (8 : Int).toNat 64)) ||| BitVec.ofInt 64 (b : Int)).toNat : Int) = ((b + 256 * G : Nat) : Int) := by
  have e1 : ((G : Int) * 2 ^ min (8 : Int).toNat 64) = ((G * 256 : Nat) : Int) := by
    have : min (8 : Int).toNat 64 = 8 := rfl
    rw [this]; omega
  rw [e1, u64_nat (G * 256) (by omega), BitVec.ofInt_natCast, BitVec.ofInt_natCast, BitVec.toNat_or, BitVec.toNat_ofNat, BitVec.toNat_ofNat, Nat.mod_eq_of_lt (by omega), Nat.mod_eq_of_lt (by omega)]
  have e2 : G * 256 ||| b = G * 256 + b := by
    have h := Nat.shiftLeft_add_eq_or_of_lt (i := 8) (b := b) (by simpa using hb) G
    rw [Nat.shiftLeft_eq] at h
    exact h.symm
  rw [e2, u64_nat _ (by omega)]
  omega
theorem bo_int {P : Program} {op : BinOp} {T : TypeId} {x y : Operand} {a b : Value} {w : World} {k : IntKind} {p q : Int} (h : Bo P op T x y a b w (.int k p)) (e : p = q) : Bo P op T x y a b w (.int k q) := e ▸ h
theorem splice_all {α : Type} (L vs : List α) (h : vs.length = L.length) : splice L 0 vs = vs := by
  simp [splice, h]
theorem u8_wrap (n : Nat) : IntKind.u8.wrap (n : Int) = ((UInt8.ofNat n).toNat : Int) := by
  have h1 : (UInt8.ofNat n).toNat = n % 256 := UInt8.toNat_ofNat'
  rw [h1, IntKind.wrap_u8]
  omega
/-- What reads so wherever the first reads. -/
def Suf (bv : Value) (l : List UInt8) (bv' : Value) (l' : List UInt8) : Prop := ∀ w, Sl w bv 1 l.length (bys l) → Sl w bv' 1 l'.length (bys l')
theorem Suf.refl (bv : Value) (l : List UInt8) : Suf bv l bv l := fun _ h => h
theorem Suf.trans {a b c : Value} {l m k : List UInt8} (h : Suf a l b m) (g : Suf b m c k) : Suf a l c k := fun w x => g w (h w x)
theorem Suf.cut {A : Option Addr} {m c : Nat} {l : List UInt8} (hl : l.length = m) (k : Nat) (hk : k ≤ m) : Suf (.slice A m c) l (.slice (if c = k then A else A.map (·.add (k * 1))) (m - k) (c - k)) (l.drop k) := by
  intro w h
  rw [hl] at h
  have h2 := h.cutB k m hk (Nat.le_refl _)
  rw [List.take_of_length_le (by rw [List.length_drop]; omega)] at h2
  rw [List.length_drop, hl]
  exact h2
structure FieldM where
  b : Bool
  z : UInt8
  n : Nat
  s : ByteArray
instance : Inhabited FieldM := ⟨⟨false, 0, 0, ⟨#[]⟩⟩⟩
def FieldM.cells (x : FieldM) : List Value := [.bool x.b, .int .u8 (x.z.toNat : Int), .int .u64 (x.n : Int), .string x.s]
def FieldM.ok (x : FieldM) : Prop := x.n < 18446744073709551616 ∧ x.s.size ≤ 9223372036854775807
def FieldM.k (x : FieldM) : Nat := 1 + x.z.toNat % 8
def FieldM.bytes (x : FieldM) : List UInt8 := if x.b then padL x.s.data.toList (x.k : Int) else putL x.n x.k
end Go.Mo
