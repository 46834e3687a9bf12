/- Numbers and texts as bytes: plain lists. -/
import Derived.Test.YtpagpmioopaciaaGreatPTypes
set_option linter.unusedVariables false
set_option linter.unusedSimpArgs false
namespace Go.Mo
/-- The number n in k bytes, the lowest first. -/
def putL : Nat → Nat → List UInt8
  | _, 0 => []
  | n, k + 1 => UInt8.ofNat n :: putL (n / 256) k
theorem putL_length : ∀ (k n : Nat), (putL n k).length = k
  | 0, _ => rfl
  | k + 1, n => by simp [putL, putL_length k]
theorem putL_succ : ∀ (k n : Nat), putL n (k + 1) = putL n k ++ [UInt8.ofNat (n / 256 ^ k)]
  | 0, n => by simp [putL]
  | k + 1, n => by
    show UInt8.ofNat n :: putL (n / 256) (k + 1) = _
    rw [putL_succ k (n / 256)]
    have : n / 256 / 256 ^ k = n / 256 ^ (k + 1) := by rw [Nat.div_div_eq_div_mul, Nat.pow_succ, Nat.mul_comm]
    rw [this]
    rfl
/-- What stands behind eight bytes is nought. -/
theorem putL_big (n k : Nat) (hn : n < 18446744073709551616) (hk : 8 ≤ k) : putL n k = putL n 8 ++ List.replicate (k - 8) 0 := by
  obtain ⟨j, rfl⟩ := Nat.exists_eq_add_of_le hk
  clear hk
  induction j with
  | zero => simp
  | succ j ih =>
    rw [show 8 + (j + 1) = (8 + j) + 1 by omega, putL_succ, ih]
    have h0 : n / 256 ^ (8 + j) = 0 := by
      apply Nat.div_eq_of_lt
      have h1 : 256 ^ 8 ≤ 256 ^ (8 + j) := Nat.pow_le_pow_right (by decide) (by omega)
      have h2 : (256 : Nat) ^ 8 = 18446744073709551616 := by decide
      omega
    rw [h0, List.append_assoc, show 8 + j - 8 = j by omega, show 8 + j + 1 - 8 = j + 1 by omega, List.replicate_succ']
    rfl
theorem splice_one {α : Type} (A : List α) (k : Nat) (x y : α) (B : List α) (h : A.length = k) : splice (A ++ x :: B) k [y] = A ++ y :: B := by
  subst h
  simp only [splice, List.take_left, List.length_singleton, List.singleton_append]
  congr 2
  rw [List.drop_append]
  simp
theorem put_step (n k m : Nat) (hk : k < m) : splice (bys (putL n k ++ List.replicate (m - k) 0)) (0 + k * 1) [.int .u8 (IntKind.u8.wrap ((n : Int) / 2 ^ min (8 * (k : Int)).toNat 64))] = bys (putL n k ++ UInt8.ofNat (n / 2 ^ min (8 * k) 64) :: List.replicate (m - (k + 1)) 0) := by
  obtain ⟨j, rfl⟩ := Nat.exists_eq_add_of_lt hk
  rw [show k + j + 1 - k = j + 1 by omega, show k + j + 1 - (k + 1) = j by omega, List.replicate_succ, bys_append, bys_append, bys_cons, bys_cons, Nat.mul_one, Nat.zero_add, splice_one _ _ _ _ _ (by rw [bys_length, putL_length])]
  congr 2
theorem put_small (n k m : Nat) (hk : k < m) (h8 : k < 8) : splice (bys (putL n k ++ List.replicate (m - k) 0)) (0 + k * 1) [.int .u8 (IntKind.u8.wrap ((n : Int) / 2 ^ min (8 * (k : Int)).toNat 64))] = bys (putL n (k + 1) ++ List.replicate (m - (k + 1)) 0) := by
  rw [put_step n k m hk, putL_succ, List.append_assoc]
  rw [show min (8 * k) 64 = 8 * k by omega, Nat.pow_mul]
  rfl
theorem put_large (n k m : Nat) (hn : n < 18446744073709551616) (hk : k < m) (h8 : 8 ≤ k) : putL n k ++ List.replicate (m - k) 0 = putL n (k + 1) ++ List.replicate (m - (k + 1)) 0 := by
  rw [putL_big n k hn h8, putL_big n (k + 1) hn (by omega), List.append_assoc, List.append_assoc, List.replicate_append_replicate, List.replicate_append_replicate, show k - 8 + (m - k) = k + 1 - 8 + (m - (k + 1)) by omega]
theorem put_head (n j : Nat) : [Value.int .u8 (IntKind.u8.wrap ((n : Int) % 256))] ++ bys (putL (n / 256) j) = bys (putL n (j + 1)) := by
  have : IntKind.u8.wrap ((n : Int) % 256) = ((UInt8.ofNat n).toNat : Int) := by
    have h1 : (UInt8.ofNat n).toNat = n % 256 := UInt8.toNat_ofNat'
    rw [h1, IntKind.wrap_u8]
    omega
  rw [this]
  rfl
/-- The number of bytes, the lowest first. -/
def getL : List UInt8 → Nat
  | [] => 0
  | b :: l => b.toNat + 256 * getL l
theorem getL_lt : ∀ l : List UInt8, getL l < 256 ^ l.length
  | [] => by simp [getL]
  | b :: l => by
    have := getL_lt l
    have hb := b.toNat_lt
    simp only [getL, List.length_cons, Nat.pow_succ]
    omega
theorem getL_put : ∀ (k n : Nat), getL (putL n k) = n % 256 ^ k
  | 0, n => by simp [getL, putL, Nat.mod_one]
  | k + 1, n => by
    simp only [putL, getL, getL_put k]
    have h1 : (UInt8.ofNat n).toNat = n % 256 := UInt8.toNat_ofNat'
    have h2 : n % 256 ^ (k + 1) = n % 256 + 256 * (n / 256 % 256 ^ k) := by rw [Nat.pow_succ, Nat.mul_comm (256 ^ k) 256, Nat.mod_mul]
    rw [h1, h2]
/-- Are all noughts? -/
def zeroL (l : List UInt8) : Bool := l.all (· == 0)
theorem zeroL_take {l : List UInt8} {k : Nat} (h : zeroL (l.take k) = true) (hk : k < l.length) (hb : l.getD k 0 = 0) : zeroL (l.take (k + 1)) = true := by
  unfold zeroL at *
  rw [List.take_succ_eq_append_getElem hk, List.all_append, h]
  simp only [List.getD_eq_getElem?_getD, hk, getElem?_pos, Option.getD_some] at hb
  simp [hb]
theorem zeroL_no {l : List UInt8} {k : Nat} (hk : k < l.length) (hb : ¬ l.getD k 0 = 0) : zeroL l = false := by
  unfold zeroL
  rw [List.all_eq_false]
  simp only [List.getD_eq_getElem?_getD, hk, getElem?_pos, Option.getD_some] at hb
  exact ⟨l[k], List.getElem_mem hk, by simpa using hb⟩
theorem u8_zero (b : UInt8) : ((b.toNat : Int) = 0) ↔ b = 0 := by
  constructor
  · intro h; exact UInt8.toNat_inj.1 (by simpa using (by omega : b.toNat = 0))
  · rintro rfl; rfl
/-- A text padded: its length, it, noughts. -/
def padOk (n : Nat) (size : Int) : Bool := decide (1 ≤ size ∧ size ≤ 256 ∧ (n : Int) ≤ size - 1)
def padL (s : List UInt8) (size : Int) : List UInt8 := if padOk s.length size then UInt8.ofNat s.length :: (s ++ List.replicate (size.toNat - 1 - s.length) 0) else []
def padC (n : Nat) (size : Int) : Int := if size < 1 ∨ 256 < size then 2 else if size - 1 < (n : Int) then 15 else 0
/-- The text that stands so in bytes. -/
def unpadOk : List UInt8 → Bool
  | [] => false
  | b :: r => decide (b.toNat ≤ r.length) && zeroL (r.drop b.toNat)
def unpadL : List UInt8 → List UInt8
  | [] => []
  | b :: r => if unpadOk (b :: r) then r.take b.toNat else []
def unpadC (l : List UInt8) : Int := if unpadOk l then 0 else 3
theorem padL_length (s : List UInt8) (size : Int) (h : padOk s.length size = true) : (padL s size).length = size.toNat := by
  have h' := of_decide_eq_true h
  simp only [padL, h, if_true, List.length_cons, List.length_append, List.length_replicate]
  omega
def curOk (bad : Bool) (l : List UInt8) (k : Int) : Bool := !bad && decide (0 ≤ k ∧ k ≤ l.length)
def curOut (bad : Bool) (l : List UInt8) (k : Int) : List UInt8 := if curOk bad l k then l.take k.toNat else List.replicate (min (max k 0) 256).toNat 0
def curL (bad : Bool) (l : List UInt8) (k : Int) : List UInt8 := if curOk bad l k then l.drop k.toNat else l
def curNum (bad : Bool) (l : List UInt8) (k : Int) : Nat := getL ((curOut bad l k).take 8)
def curText (bad : Bool) (l : List UInt8) (k : Int) : List UInt8 := unpadL (curOut bad l k)
def curTextBad (bad : Bool) (l : List UInt8) (k : Int) : Bool := !curOk bad l k || !unpadOk (curOut bad l k)
theorem bytes_eq (a b : List UInt8) : decide ((⟨a.toArray⟩ : ByteArray) = ⟨b.toArray⟩) = decide (a = b) := by
  congr 1
  simp
theorem u64_nat (x : Nat) (h : x < 18446744073709551616) : IntKind.u64.wrap (x : Int) = x := IntWalk.u64_in _ (by omega)
theorem or_val (G b : Nat) (hG : G < 72057594037927936) (hb : b < 256) : IntKind.u64.wrap ((BitVec.ofInt 64 (IntKind.u64.wrap ((G : Int) * 2 ^ min (8 : Int).toNat 64)) ||| BitVec.ofInt 64 (b : Int)).toNat : Int) = ((b + 256 * G : Nat) : Int) := by
  have e1 : ((G : Int) * 2 ^ min (8 : Int).toNat 64) = ((G * 256 : Nat) : Int) := by
    have : min (8 : Int).toNat 64 = 8 := rfl
    rw [this]; omega
  rw [e1, u64_nat (G * 256) (by omega), BitVec.ofInt_natCast, BitVec.ofInt_natCast, BitVec.toNat_or, BitVec.toNat_ofNat, BitVec.toNat_ofNat, Nat.mod_eq_of_lt (by omega), Nat.mod_eq_of_lt (by omega)]
  have e2 : G * 256 ||| b = G * 256 + b := by
    have h := Nat.shiftLeft_add_eq_or_of_lt (i := 8) (b := b) (by simpa using hb) G
    rw [Nat.shiftLeft_eq] at h
    exact h.symm
  rw [e2, u64_nat _ (by omega)]
  omega
theorem getL_drop (l : List UInt8) (j : Nat) (h : j < l.length) : getL (l.drop j) = (l.getD j 0).toNat + 256 * getL (l.drop (j + 1)) := by
  rw [List.drop_eq_getElem_cons h]
  simp [getL, List.getD_eq_getElem?_getD, h]
theorem bo_int {P : Program} {op : BinOp} {T : TypeId} {x y : Operand} {a b : Value} {w : World} {k : IntKind} {p q : Int} (h : Bo P op T x y a b w (.int k p)) (e : p = q) : Bo P op T x y a b w (.int k q) := e ▸ h
theorem get_or {P : Program} {T : TypeId} {x y : Operand} {w : World} (l : List UInt8) (j : Nat) (h : j < (l.take 8).length) :
    Bo P .or T x y (.int .u64 (IntKind.u64.wrap ((getL ((l.take 8).drop (j + 1)) : Int) * 2 ^ min (8 : Int).toNat 64))) (.int .u64 ((l.getD j 0).toNat : Int)) w (.int .u64 (getL ((l.take 8).drop j) : Int)) := by
  have hb := (l.getD j 0).toNat_lt
  have hl : (l.take 8).length ≤ 8 := by rw [List.length_take]; omega
  have hg := getL_lt ((l.take 8).drop (j + 1))
  have hp : 256 ^ ((l.take 8).drop (j + 1)).length ≤ 256 ^ 7 := Nat.pow_le_pow_right (by decide) (by rw [List.length_drop]; omega)
  have h7 : (256 : Nat) ^ 7 = 72057594037927936 := by decide
  refine bo_int bo_or ?_
  have e := or_val (getL ((l.take 8).drop (j + 1))) (l.getD j 0).toNat (by omega) (by omega)
  refine e.trans ?_
  rw [getL_drop (l.take 8) j h]
  have : (l.take 8).getD j 0 = l.getD j 0 := by
    simp only [List.getD_eq_getElem?_getD, List.getElem?_take]
    rw [if_pos (by rw [List.length_take] at h; omega)]
  rw [this]
theorem splice_all {α : Type} (L vs : List α) (h : vs.length = L.length) : splice L 0 vs = vs := by
  simp [splice, h]
theorem padL_no {s : List UInt8} {size : Int} (h : padOk s.length size = false) : padL s size = [] := by simp [padL, h]
theorem u8_wrap (n : Nat) : IntKind.u8.wrap (n : Int) = ((UInt8.ofNat n).toNat : Int) := by
  have h1 : (UInt8.ofNat n).toNat = n % 256 := UInt8.toNat_ofNat'
  rw [h1, IntKind.wrap_u8]
  omega
theorem pad_first (n m : Nat) (hm : 1 ≤ m) : splice (List.replicate m (Value.int .u8 0)) (0 + 0 * 1) [.int .u8 (IntKind.u8.wrap (n : Int))] = bys (UInt8.ofNat n :: List.replicate (m - 1) 0) := by
  obtain ⟨j, rfl⟩ := Nat.exists_eq_add_of_le hm
  rw [show 1 + j - 1 = j by omega, Nat.add_comm 1 j, List.replicate_succ, bys_cons, bys_replicate, u8_wrap]
  rfl
theorem pad_copy (b : UInt8) (l : List UInt8) (m : Nat) (hm : 1 + l.length ≤ m) : splice (bys (b :: List.replicate (m - 1) 0)) (if m = 1 then 0 else 0 + 1 * 1) (bys l) = bys (b :: (l ++ List.replicate (m - 1 - l.length) 0)) := by
  split
  · rename_i h
    obtain rfl : l = [] := List.eq_nil_of_length_eq_zero (by omega)
    subst h
    rfl
  · simp only [splice, bys_cons, bys_append, bys_replicate, bys_length, Nat.zero_add, Nat.one_mul, List.take_succ_cons, List.take_zero, List.cons_append, List.nil_append, Nat.add_comm 1 l.length, List.drop_succ_cons, List.drop_replicate]
theorem padL_yes {s : List UInt8} {size : Int} (h : padOk s.length size = true) : padL s size = UInt8.ofNat s.length :: (s ++ List.replicate (size.toNat - 1 - s.length) 0) := by simp [padL, h]
theorem pad_more (b : UInt8) (l : List UInt8) (k : Nat) (hk : 1 + l.length ≤ k) : bys (b :: (l ++ List.replicate (k - 1 - l.length) 0)) ++ [Value.int .u8 0] = bys (b :: (l ++ List.replicate (k + 1 - 1 - l.length) 0)) := by
  rw [show k + 1 - 1 - l.length = (k - 1 - l.length) + 1 by omega, List.replicate_succ', ← List.append_assoc, bys_cons, bys_cons, bys_append (l ++ _), List.cons_append]
  rfl
theorem unpad_long {b : UInt8} {r : List UInt8} (h : r.length < b.toNat) : unpadL (b :: r) = [] ∧ unpadC (b :: r) = 3 := by
  have e : unpadOk (b :: r) = false := by simp only [unpadOk, Bool.and_eq_false_iff, decide_eq_false_iff_not]; left; omega
  simp [unpadL, unpadC, e]
theorem unpad_dirty {b : UInt8} {r : List UInt8} (h : zeroL (r.drop b.toNat) = false) : unpadL (b :: r) = [] ∧ unpadC (b :: r) = 3 := by
  have e : unpadOk (b :: r) = false := by simp [unpadOk, h]
  simp [unpadL, unpadC, e]
theorem unpad_yes {b : UInt8} {r : List UInt8} (h : b.toNat ≤ r.length) (hz : zeroL (r.drop b.toNat) = true) : unpadL (b :: r) = r.take b.toNat ∧ unpadC (b :: r) = 0 := by
  have e : unpadOk (b :: r) = true := by simp [unpadOk, h, hz]
  simp [unpadL, unpadC, e]
theorem unpad_tail {b : UInt8} {r : List UInt8} {m : Nat} (h : (b :: r).length = m) : ((b :: r).drop (1 + b.toNat)).take (m - (1 + b.toNat)) = r.drop b.toNat := by
  rw [Nat.add_comm, List.drop_succ_cons]
  apply List.take_of_length_le
  simp only [List.length_cons] at h
  rw [List.length_drop]
  omega
theorem unpad_mid (b : UInt8) (r : List UInt8) : ((b :: r).drop 1).take (1 + b.toNat - 1) = r.take b.toNat := by
  rw [show 1 + b.toNat - 1 = b.toNat by omega]; rfl
/-- What reads so wherever the first reads. -/
def Suf (bv : Value) (l : List UInt8) (bv' : Value) (l' : List UInt8) : Prop := ∀ w, Sl w bv 1 l.length (bys l) → Sl w bv' 1 l'.length (bys l')
theorem Suf.refl (bv : Value) (l : List UInt8) : Suf bv l bv l := fun _ h => h
theorem Suf.trans {a b c : Value} {l m k : List UInt8} (h : Suf a l b m) (g : Suf b m c k) : Suf a l c k := fun w x => g w (h w x)
theorem Suf.cut {A : Option Addr} {m c : Nat} {l : List UInt8} (hl : l.length = m) (k : Nat) (hk : k ≤ m) : Suf (.slice A m c) l (.slice (if c = k then A else A.map (·.add (k * 1))) (m - k) (c - k)) (l.drop k) := by
  intro w h
  rw [hl] at h
  have h2 := h.cutB k m hk (Nat.le_refl _)
  rw [List.take_of_length_le (by rw [List.length_drop]; omega)] at h2
  rw [List.length_drop, hl]
  exact h2
theorem cur_no {bad : Bool} {l : List UInt8} {k : Int} (h : curOk bad l k = false) : curOut bad l k = List.replicate (min (max k 0) 256).toNat 0 ∧ curL bad l k = l := by simp [curOut, curL, h]
theorem cur_yes {bad : Bool} {l : List UInt8} {k : Int} (h : curOk bad l k = true) : curOut bad l k = l.take k.toNat ∧ curL bad l k = l.drop k.toNat := by simp [curOut, curL, h]
theorem cur_copy (l : List UInt8) (k : Nat) (h : k ≤ l.length) : splice (List.replicate k (Value.int .u8 0)) 0 (bys (l.take k)) = bys (l.take k) :=
  splice_all _ _ (by rw [bys_length, List.length_replicate, List.length_take]; omega)
theorem unpadC_iff {l : List UInt8} : unpadC l = 0 ↔ unpadOk l = true := by
  unfold unpadC
  cases unpadOk l <;> simp
theorem unpadL_no {l : List UInt8} (h : unpadOk l = false) : unpadL l = [] := by
  cases l with
  | nil => rfl
  | cons b r => simp [unpadL, h]
theorem curOk_true (l : List UInt8) (k : Int) : curOk true l k = false := rfl
theorem zeroL_replicate (n : Nat) : zeroL (List.replicate n 0) = true := by simp [zeroL]
theorem unpadL_replicate (n : Nat) : unpadL (List.replicate n 0) = [] := by
  cases n with
  | zero => rfl
  | succ n => simp [List.replicate_succ, unpadL]
theorem curText_true (l : List UInt8) (k : Int) : curText true l k = [] := by simp only [curText, (cur_no (curOk_true l k)).1, unpadL_replicate]
structure FieldM where
  b : Bool
  z : UInt8
  n : Nat
  s : ByteArray
instance : Inhabited FieldM := ⟨⟨false, 0, 0, ⟨#[]⟩⟩⟩
def FieldM.cells (x : FieldM) : List Value := [.bool x.b, .int .u8 (x.z.toNat : Int), .int .u64 (x.n : Int), .string x.s]
def FieldM.ok (x : FieldM) : Prop := x.n < 18446744073709551616 ∧ x.s.size ≤ 9223372036854775807
def FieldM.k (x : FieldM) : Nat := 1 + x.z.toNat % 8
def FieldM.bytes (x : FieldM) : List UInt8 := if x.b then padL x.s.data.toList (x.k : Int) else putL x.n x.k
theorem unpad_pad (s : List UInt8) (k : Nat) (h : padOk s.length (k : Int) = true) : unpadL (padL s k) = s ∧ unpadOk (padL s k) = true := by
  have h' := of_decide_eq_true h
  have e1 : (UInt8.ofNat s.length).toNat = s.length := by
    have h2 : (UInt8.ofNat s.length).toNat = s.length % 256 := UInt8.toNat_ofNat'
    rw [h2]; omega
  have hok : unpadOk (padL s k) = true := by
    rw [padL_yes h]
    simp only [unpadOk, e1, Bool.and_eq_true, decide_eq_true_eq, List.length_append]
    refine ⟨by omega, ?_⟩
    rw [List.drop_left]
    exact zeroL_replicate _
  refine ⟨?_, hok⟩
  have hok' := hok
  rw [padL_yes h] at hok' ⊢
  simp only [unpadL, hok', if_true, e1, List.take_left]
theorem ba_eq (s : ByteArray) : (⟨s.data.toList.toArray⟩ : ByteArray) = s := by cases s; simp
end Go.Mo
