/- Numbers and texts as bytes: plain lists. -/
import Derived.Test.YtpagpmioopaciaaGMore
set_option linter.unusedVariables false
set_option linter.unusedSimpArgs false
namespace Go.Mo
/-- The number n in k bytes, the lowest first. -/
def putL : Nat → Nat → List UInt8
  | _, 0 => []
  | n, k + 1 => UInt8.ofNat n :: putL (n / 256) k
theorem putL_length : ∀ (k n : Nat), (putL n k).length = k
  | 0, _ => rfl
  | k + 1, n => by simp [putL, putL_length k]
/-- The number of bytes, the lowest first. -/
def getL : List UInt8 → Nat
  | [] => 0
  | b :: l => b.toNat + 256 * getL l
theorem getL_put : ∀ (k n : Nat), getL (putL n k) = n % 256 ^ k
  | 0, n => by simp [getL, putL, Nat.mod_one]
  | k + 1, n => by
    simp only [putL, getL, getL_put k]
    have h1 : (UInt8.ofNat n).toNat = n % 256 := UInt8.toNat_ofNat'
    have h2 : n % 256 ^ (k + 1) = n % 256 + 256 * (n / 256 % 256 ^ k) := by rw [Nat.pow_succ, Nat.mul_comm (256 ^ k) 256, Nat.mod_mul]
    rw [h1, h2]
/-- Are all noughts? -/
def zeroL (l : List UInt8) : Bool := l.all (· == 0)
/-- A text padded: its length, it, noughts. -/
def padOk (n : Nat) (size : Int) : Bool := decide (1 ≤ size ∧ size ≤ 256 ∧ (n : Int) ≤ size - 1)
def padL (s : List UInt8) (size : Int) : List UInt8 := if padOk s.length size then UInt8.ofNat s.length :: (s ++ List.replicate (size.toNat - 1 - s.length) 0) else []
/-- The text that stands so in bytes. -/
def unpadOk : List UInt8 → Bool
  | [] => false
  | b :: r => decide (b.toNat ≤ r.length) && zeroL (r.drop b.toNat)
def unpadL : List UInt8 → List UInt8
  | [] => []
  | b :: r => if unpadOk (b :: r) then r.take b.toNat else []
theorem padL_length (s : List UInt8) (size : Int) (h : padOk s.length size = true) : (padL s size).length = size.toNat := by
  have h' := of_decide_eq_true h
  simp only [padL, h, if_true, List.length_cons, List.length_append, List.length_replicate]
  omega
theorem splice_all {α : Type} (L vs : List α) (h : vs.length = L.length) : splice L 0 vs = vs := by
  simp [splice, h]
theorem padL_yes {s : List UInt8} {size : Int} (h : padOk s.length size = true) : padL s size = UInt8.ofNat s.length :: (s ++ List.replicate (size.toNat - 1 - s.length) 0) := by simp [padL, h]
/-- What reads so wherever the first reads. -/
def Suf (bv : Value) (l : List UInt8) (bv' : Value) (l' : List UInt8) : Prop := ∀ w, Sl w bv 1 l.length (bys l) → Sl w bv' 1 l'.length (bys l')
theorem Suf.refl (bv : Value) (l : List UInt8) : Suf bv l bv l := fun _ h => h
theorem Suf.trans {a b c : Value} {l m k : List UInt8} (h : Suf a l b m) (g : Suf b m c k) : Suf a l c k := fun w x => g w (h w x)
theorem zeroL_replicate (n : Nat) : zeroL (List.replicate n 0) = true := by simp [zeroL]
structure FieldM where
  b : Bool
  z : UInt8
  n : Nat
  s : ByteArray
instance : Inhabited FieldM := ⟨⟨false, 0, 0, ⟨#[]⟩⟩⟩
def FieldM.cells (x : FieldM) : List Value := [.bool x.b, .int .u8 (x.z.toNat : Int), .int .u64 (x.n : Int), .string x.s]
def FieldM.ok (x : FieldM) : Prop := x.n < 18446744073709551616 ∧ x.s.size ≤ 9223372036854775807
def FieldM.k (x : FieldM) : Nat := 1 + x.z.toNat % 8
def FieldM.bytes (x : FieldM) : List UInt8 := if x.b then padL x.s.data.toList (x.k : Int) else putL x.n x.k
theorem unpad_pad (s : List UInt8) (k : Nat) (h : padOk s.length (k : Int) = true) : unpadL (padL s k) = s ∧ unpadOk (padL s k) = true := by
  have h' := of_decide_eq_true h
  have e1 : (UInt8.ofNat s.length).toNat = s.length := by
    have h2 : (UInt8.ofNat s.length).toNat = s.length % 256 := UInt8.toNat_ofNat'
    rw [h2]; omega
  have hok : unpadOk (padL s k) = true := by
    rw [padL_yes h]
    simp only [unpadOk, e1, Bool.and_eq_true, decide_eq_true_eq, List.length_append]
    refine ⟨by omega, ?_⟩
    rw [List.drop_left]
    exact zeroL_replicate _
  refine ⟨?_, hok⟩
  have hok' := hok
  rw [padL_yes h] at hok' ⊢
  simp only [unpadL, hok', if_true, e1, List.take_left]
theorem ba_eq (s : ByteArray) : (⟨s.data.toList.toArray⟩ : ByteArray) = s := by cases s; simp
end Go.Mo
