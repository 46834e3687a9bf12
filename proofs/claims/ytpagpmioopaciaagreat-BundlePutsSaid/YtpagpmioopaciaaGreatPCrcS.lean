/- The sum of bytes, twice: bit by bit in a register, and as what is left of a division; they are one. -/
import Derived.Test.YtpagpmioopaciaaGreatPWordS
set_option linter.unusedVariables false
set_option linter.unusedSimpArgs false
namespace Go.Mo
def stepB (r : BitVec 32) : BitVec 32 := if (r &&& 1#32).toNat = 1 then (r >>> 1) ^^^ 3988292384#32 else r >>> 1
def stepsB : Nat → BitVec 32 → BitVec 32
  | 0, r => r
  | k + 1, r => stepB (stepsB k r)
def turnB (r : BitVec 32) (c : UInt8) : BitVec 32 := stepsB 8 (r ^^^ BitVec.ofNat 32 c.toNat)
def moreB (s : BitVec 32) (l : List UInt8) : BitVec 32 := ~~~ (l.foldl turnB (~~~ s))
def ofB (l : List UInt8) : BitVec 32 := moreB 0#32 l
def bitB (b : Bool) : BitVec 32 := if b then 1#32 else 0#32
theorem bitB_get (b : Bool) (k : Nat) : (bitB b).getLsbD k = (b && decide (k = 0)) := by
  cases b
  · simp [bitB]
  · simp only [bitB, if_true, Bool.true_and, BitVec.getLsbD_one]
    cases k <;> simp
theorem low_one (r : BitVec 32) : (r &&& 1#32).toNat = 1 ↔ r.getLsbD 0 = true := by
  rw [BitVec.toNat_and]
  show r.toNat &&& 1 = 1 ↔ _
  rw [Nat.and_one_is_mod, BitVec.getLsbD, Nat.testBit_zero]
  simp
theorem stepB_get (r : BitVec 32) (k : Nat) : (stepB r).getLsbD k = (r.getLsbD (1 + k) ^^ (r.getLsbD 0 && (3988292384#32).getLsbD k)) := by
  unfold stepB
  split
  · rename_i h; rw [low_one] at h; rw [h, BitVec.getLsbD_xor, BitVec.getLsbD_ushiftRight]; simp
  · rename_i h; rw [low_one] at h; rw [Bool.not_eq_true] at h; rw [h, BitVec.getLsbD_ushiftRight]; simp
/-- The register, bit by bit. -/
def regL : BitVec 32 → List Bool → BitVec 32
  | r, [] => r
  | r, b :: l => regL (stepB (r ^^^ bitB b)) l
theorem regL_append (r : BitVec 32) (a b : List Bool) : regL r (a ++ b) = regL (regL r a) b := by
  induction a generalizing r with
  | nil => rfl
  | cons x a ih => exact ih _
def bits8 (c : UInt8) : List Bool := (List.range 8).map fun k => c.toNat.testBit k
def bitsL (l : List UInt8) : List Bool := l.flatMap bits8
/-- Bits that are already in the register. -/
def inB : List Bool → BitVec 32
  | [] => 0#32
  | b :: l => bitB b ^^^ (inB l <<< 1)
theorem inB_get : ∀ (l : List Bool) (k : Nat), k < 32 → (inB l).getLsbD k = l.getD k false
  | [], k, _ => by simp [inB]
  | b :: l, 0, _ => by rw [inB, BitVec.getLsbD_xor, bitB_get, BitVec.getLsbD_shiftLeft]; simp
  | b :: l, k + 1, h => by
    rw [inB, BitVec.getLsbD_xor, bitB_get, BitVec.getLsbD_shiftLeft]
    have := inB_get l k (by omega)
    simp [h, this]
theorem step_in (r y : BitVec 32) (hy : y.getLsbD 31 = false) : stepB (r ^^^ (y <<< 1)) = stepB r ^^^ y := by
  apply BitVec.eq_of_getLsbD_eq
  intro k hk
  simp only [stepB_get, BitVec.getLsbD_xor, BitVec.getLsbD_shiftLeft]
  rcases Nat.lt_or_ge k 31 with h | h
  · have e1 : 1 + k - 1 = k := by omega
    have e2 : decide (1 + k < 32) = true := by simp; omega
    have e3 : decide (1 + k < 1) = false := by simp
    simp only [e1, e2, e3, Bool.true_and, Bool.not_false]
    simp [Bool.xor_comm, Bool.xor_left_comm]
  · obtain rfl : k = 31 := by omega
    have hy' : y[31] = false := by simpa using hy
    simp [hy']
def stepsC : Nat → BitVec 32 → BitVec 32
  | 0, r => r
  | k + 1, r => stepsC k (stepB r)
theorem regL_in : ∀ (l : List Bool) (r : BitVec 32), l.length ≤ 31 → stepsC l.length (r ^^^ inB l) = regL r l
  | [], r, _ => by simp [stepsC, inB, regL]
  | b :: l, r, h => by
    simp only [List.length_cons] at h
    rw [List.length_cons, stepsC, inB, regL, ← BitVec.xor_assoc, step_in _ _ (by
      have := inB_get l 31 (by omega)
      rw [this, List.getD_eq_getElem?_getD, List.getElem?_eq_none (by omega)]
      rfl)]
    exact regL_in l _ (by omega)
theorem stepsB_succ : ∀ (k : Nat) (r : BitVec 32), stepsB (k + 1) r = stepsB k (stepB r)
  | 0, _ => rfl
  | k + 1, r => by rw [stepsB, stepsB_succ k r, stepsB]
theorem steps_eq : ∀ (k : Nat) (r : BitVec 32), stepsC k r = stepsB k r
  | 0, _ => rfl
  | k + 1, r => by rw [stepsC, steps_eq k, stepsB_succ]
theorem inB_bits (c : UInt8) : inB (bits8 c) = BitVec.ofNat 32 c.toNat := by
  apply BitVec.eq_of_getLsbD_eq
  intro k hk
  rw [inB_get _ _ hk, BitVec.getLsbD_ofNat, List.getD_eq_getElem?_getD]
  have hc := c.toNat_lt
  rcases Nat.lt_or_ge k 8 with h | h
  · simp [bits8, h, hk]
  · rw [List.getElem?_eq_none (by simp [bits8]; omega)]
    have : c.toNat.testBit k = false := Nat.testBit_lt_two_pow (Nat.lt_of_lt_of_le hc (Nat.pow_le_pow_right (n := 2) (by decide) h))
    simp [this]
theorem turnB_reg (r : BitVec 32) (c : UInt8) : turnB r c = regL r (bits8 c) := by
  rw [turnB, ← inB_bits, ← regL_in (bits8 c) r (by simp [bits8]), steps_eq]
  rfl
theorem fold_reg : ∀ (l : List UInt8) (r : BitVec 32), l.foldl turnB r = regL r (bitsL l)
  | [], _ => rfl
  | c :: l, r => by rw [List.foldl_cons, fold_reg l, turnB_reg, ← regL_append]; rfl
/-- The polynomial's bits. -/
def polyL : List Bool := (List.range 33).map fun k => bif k == 0 then true else (3988292384#32).getLsbD (k - 1)
/-- What is left of a division: bits, the first over and over. -/
def xorL : List Bool → List Bool → List Bool
  | a :: x, b :: y => (a ^^ b) :: xorL x y
  | x, [] => x
  | [], _ => []
theorem xorL_get : ∀ (x y : List Bool) (k : Nat), k < x.length → (xorL x y).getD k false = (x.getD k false ^^ y.getD k false)
  | [], y, k, h => by simp at h
  | a :: x, [], k, h => by simp [xorL]
  | a :: x, b :: y, 0, h => by simp [xorL]
  | a :: x, b :: y, k + 1, h => by
    have := xorL_get x y k (by simpa using h)
    simpa [xorL] using this
theorem xorL_length : ∀ (x y : List Bool), (xorL x y).length = x.length
  | [], [] => rfl
  | [], _ :: _ => rfl
  | a :: x, [] => rfl
  | a :: x, b :: y => by simp [xorL, xorL_length x y]
def divL : Nat → List Bool → List Bool
  | n + 1, a :: x => divL n (if a then (xorL (a :: x) polyL).tail else x)
  | _, x => x
/-- Bits with a register over the first 32. -/
def mixL (r : BitVec 32) (l : List Bool) : List Bool := l.mapIdx fun k b => b ^^ r.getLsbD k
theorem mixL_length (r : BitVec 32) (l : List Bool) : (mixL r l).length = l.length := by simp [mixL]
theorem mixL_get (r : BitVec 32) (l : List Bool) (k : Nat) (h : k < l.length) : (mixL r l).getD k false = (l.getD k false ^^ r.getLsbD k) := by
  simp [mixL, List.getD_eq_getElem?_getD, h]
theorem ext_getD {x y : List Bool} (hl : x.length = y.length) (h : ∀ k, k < x.length → x.getD k false = y.getD k false) : x = y := by
  apply List.ext_getElem hl
  intro k h1 h2
  have := h k h1
  simpa [List.getD_eq_getElem?_getD, h1, h2] using this
theorem polyL_get (k : Nat) (h : k < 32) : polyL.getD (k + 1) false = (3988292384#32).getLsbD k := by
  rw [List.getD_eq_getElem?_getD, polyL, List.getElem?_map, List.getElem?_range (by omega)]
  simp
theorem polyL_out (k : Nat) (h : 32 ≤ k) : polyL.getD (k + 1) false = false := by
  simp [polyL, List.getD_eq_getElem?_getD, show ¬ k + 1 < 33 by omega]
theorem div_mix (r : BitVec 32) (b : Bool) (l : List Bool) : (if (mixL r (b :: l)).getD 0 false then (xorL (mixL r (b :: l)) polyL).tail else (mixL r (b :: l)).tail) = mixL (stepB (r ^^^ bitB b)) l := by
  have h0 : (mixL r (b :: l)).getD 0 false = (b ^^ r.getLsbD 0) := mixL_get r (b :: l) 0 (by simp)
  have hx : (r ^^^ bitB b).getLsbD 0 = (b ^^ r.getLsbD 0) := by rw [BitVec.getLsbD_xor, bitB_get]; simp [Bool.xor_comm]
  have hs : ∀ k, (r ^^^ bitB b).getLsbD (1 + k) = r.getLsbD (k + 1) := fun k => by rw [BitVec.getLsbD_xor, bitB_get, Nat.add_comm]; simp
  have tailD : ∀ (x : List Bool) k, x.tail.getD k false = x.getD (k + 1) false := fun x k => by cases x <;> simp
  apply ext_getD
  · split <;> simp [mixL_length, xorL_length]
  · intro k hk
    have hk' : k < l.length := by
      revert hk
      split <;> simp [mixL_length, xorL_length]
    rw [mixL_get _ _ _ hk', stepB_get, hx, hs]
    have hm : (mixL r (b :: l)).getD (k + 1) false = (l.getD k false ^^ r.getLsbD (k + 1)) := by
      rw [mixL_get _ _ _ (by simpa using hk')]; simp
    rw [h0]
    cases hb : (b ^^ r.getLsbD 0) with
    | false => simp only [Bool.false_eq_true, if_false, tailD, hm, Bool.false_and, Bool.xor_false]
    | true =>
      simp only [if_true, tailD, Bool.true_and]
      rw [xorL_get _ _ _ (by rw [mixL_length]; simpa using hk'), hm]
      rcases Nat.lt_or_ge k 32 with h | h
      · rw [polyL_get k h, Bool.xor_assoc]
      · rw [polyL_out k h, BitVec.getLsbD_of_ge _ k h, Bool.xor_assoc]
theorem divL_mix : ∀ (m : List Bool) (r : BitVec 32) (z : List Bool), divL m.length (mixL r (m ++ z)) = mixL (regL r m) z
  | [], r, z => by cases hz : mixL r z <;> simp [divL, regL, hz]
  | b :: m, r, z => by
    have h := div_mix r b (m ++ z)
    rw [List.length_cons, regL, ← divL_mix m _ z, ← h]
    have hc : ∃ a x, mixL r (b :: (m ++ z)) = a :: x := ⟨_, _, by simp [mixL]; exact ⟨rfl, rfl⟩⟩
    obtain ⟨a, x, hx⟩ := hc
    rw [List.cons_append, hx, divL]
    simp
theorem step_yes {x : BitVec 32} (h : (x &&& 1#32).toNat = 1) : stepB x = (x >>> 1) ^^^ 3988292384#32 := by rw [stepB, if_pos h]
theorem step_no {x : BitVec 32} (h : ¬ (x &&& 1#32).toNat = 1) : stepB x = x >>> 1 := by rw [stepB, if_neg h]
theorem fold_take {α β : Type} (f : α → β → α) (z : α) (l : List β) (k : Nat) (d : β) (h : k < l.length) : (l.take (k + 1)).foldl f z = f ((l.take k).foldl f z) (l.getD k d) := by
  rw [List.take_succ_eq_append_getElem h, List.foldl_append, List.getD_eq_getElem?_getD, List.getElem?_eq_getElem h]
  rfl
def fourL (r : BitVec 32) : List UInt8 := [UInt8.ofNat r.toNat, UInt8.ofNat (r >>> 8).toNat, UInt8.ofNat (r >>> 16).toNat, UInt8.ofNat (r >>> 24).toNat]
theorem four_raw (r : BitVec 32) : [Value.int .u8 (IntKind.u8.wrap (r.toNat : Int)), .int .u8 (IntKind.u8.wrap ((r >>> 8).toNat : Int)), .int .u8 (IntKind.u8.wrap ((r >>> 16).toNat : Int)), .int .u8 (IntKind.u8.wrap ((r >>> 24).toNat : Int))] = bys (fourL r) := by
  simp only [fourL, bys, List.map, u8_wrap]
theorem four_put (r : BitVec 32) : fourL r = putL r.toNat 4 := by
  simp only [fourL, putL, BitVec.toNat_ushiftRight, Nat.shiftRight_eq_div_pow, Nat.div_div_eq_div_mul]
def holdsL (l : List UInt8) : Bool := decide (4 ≤ l.length) && decide (fourL (ofB (l.take (l.length - 4))) = l.drop (l.length - 4))
def sealL (l : List UInt8) : List UInt8 := l ++ fourL (ofB l)
def bitU (b : Bool) : UInt8 := if b then 1 else 0
theorem bitU_nat (b : Bool) : (bitU b).toNat = if b then 1 else 0 := by cases b <;> rfl
theorem bitU_one (b : Bool) : ((bitU b).toNat : Int) = 1 ↔ b = true := by cases b <;> simp [bitU_nat]
theorem bits_at {x : List Bool} {i : Nat} (h : i < x.length) : (bys (x.map bitU))[i]? = some (.int .u8 ((bitU (x.getD i false)).toNat : Int)) := by
  simp [bys, List.getD_eq_getElem?_getD, h]
theorem bits_len (x : List Bool) : (bys (x.map bitU)).length = x.length := by rw [bys_length, List.length_map]
section bitops
variable {P : Program} {T : TypeId} {x y : Operand} {w : World}
theorem bo_bit (c : UInt8) (k : Nat) (hk : k < 8) : Bo P .and T x y (.int .u8 ((c.toNat : Int) / 2 ^ min (k : Int).toNat IntKind.u8.bits)) (.int .u8 1) w (.int .u8 ((bitU (c.toNat.testBit k)).toNat : Int)) := by
  refine bo_int bo_and ?_
  have e : min (k : Int).toNat IntKind.u8.bits = k := by show min _ 8 = _; omega
  have hc := c.toNat_lt
  have hd : c.toNat / 2 ^ k ≤ c.toNat := Nat.div_le_self _ _
  have e2 : ((c.toNat : Int) / 2 ^ k) = ((c.toNat / 2 ^ k : Nat) : Int) := by rw [Int.natCast_ediv, Int.natCast_pow]; rfl
  have e3 : (1 : Int) = ((1 : Nat) : Int) := rfl
  have e4 : IntKind.u8.bits = 8 := rfl
  rw [e, e2, e4, e3, BitVec.ofInt_natCast, BitVec.ofInt_natCast, BitVec.toNat_and, BitVec.toNat_ofNat, BitVec.toNat_ofNat, Nat.mod_eq_of_lt (show c.toNat / 2 ^ k < 2 ^ 8 by omega)]
  have e5 : (1 % 2 ^ 8) = 1 := rfl
  rw [e5, Nat.and_one_is_mod, bitU_nat, Nat.testBit_eq_decide_div_mod_eq]
  have h2 : c.toNat / 2 ^ k % 2 < 2 := Nat.mod_lt _ (by decide)
  rw [IntKind.wrap_u8]
  split <;> rename_i h <;> simp at h <;> omega
theorem bo_flip (b : Bool) : Bo P .sub T x y (.int .u8 1) (.int .u8 ((bitU b).toNat : Int)) w (.int .u8 ((bitU (!b)).toNat : Int)) := by
  refine bo_int bo_sub ?_
  cases b <;> rfl
theorem bo_xorbit (a b : Bool) : Bo P .xor T x y (.int .u8 ((bitU a).toNat : Int)) (.int .u8 ((bitU b).toNat : Int)) w (.int .u8 ((bitU (a ^^ b)).toNat : Int)) := by
  refine bo_int bo_xor ?_
  cases a <;> cases b <;> rfl
theorem bo_shlbit {k' : IntKind} (b : Bool) (k : Nat) (hk : k < 32) : Bo P .shl T x y (.int .u32 ((bitU b).toNat : Int)) (.int k' (k : Int)) w (.int .u32 ((bitB b <<< k).toNat : Int)) := by
  refine bo_int (bo_shl (by omega)) ?_
  have e : min (k : Int).toNat IntKind.u32.bits = k := by show min _ 32 = _; omega
  have hp : (2 : Nat) ^ k < 4294967296 := Nat.pow_lt_pow_right (by decide) hk
  rw [e, BitVec.toNat_shiftLeft]
  cases b
  · simp [bitU_nat, bitB, IntKind.wrap_u32]
  · have e3 : ((bitU true).toNat : Int) * 2 ^ k = ((2 ^ k : Nat) : Int) := by rw [bitU_nat]; simp
    have e4 : (bitB true).toNat <<< k % 2 ^ 32 = 2 ^ k := by
      have : (bitB true).toNat = 1 := rfl
      rw [this, Nat.shiftLeft_eq, Nat.one_mul, Nat.mod_eq_of_lt hp]
    rw [e3, e4, u32_id hp]
theorem bo_orbv (a b : BitVec 32) : Bo P .or T x y (.int .u32 (a.toNat : Int)) (.int .u32 (b.toNat : Int)) w (.int .u32 ((a ||| b).toNat : Int)) := by
  have h := bo_or32 (P := P) (T := T) (x := x) (y := y) (w := w) a b.toNat
  rwa [BitVec.ofNat_toNat, BitVec.setWidth_eq] at h
end bitops
theorem bitsL_length : ∀ l : List UInt8, (bitsL l).length = 8 * l.length
  | [] => rfl
  | b :: l => by
    have := bitsL_length l
    simp only [bitsL, List.flatMap_cons, List.length_append, List.length_cons] at *
    rw [this]; simp [bits8]; omega
theorem bitsL_take {l : List UInt8} {i : Nat} (h : i < l.length) : bitsL (l.take (i + 1)) = bitsL (l.take i) ++ bits8 (l.getD i 0) := by
  rw [List.take_succ_eq_append_getElem h, bitsL, List.flatMap_append, List.getD_eq_getElem?_getD, List.getElem?_eq_getElem h]
  simp [bitsL]
theorem bits8_take (c : UInt8) (k : Nat) (h : k < 8) : (bits8 c).take (k + 1) = (bits8 c).take k ++ [c.toNat.testBit k] := by
  have hl : k < (bits8 c).length := by simpa [bits8] using h
  rw [List.take_succ_eq_append_getElem hl]
  simp [bits8]
theorem bits_push (x : List Bool) (b : Bool) : bys (x.map bitU) ++ [.int .u8 ((bitU b).toNat : Int)] = bys ((x ++ [b]).map bitU) := by simp [bys]
/-- The first i turned round. -/
def invL (i : Nat) (x : List Bool) : List Bool := (x.take i).map (!·) ++ x.drop i
theorem invL_length (i : Nat) (x : List Bool) : (invL i x).length = x.length := by simp [invL]; omega
theorem invL_at {i : Nat} {x : List Bool} (h : i < x.length) : (invL i x).getD i false = x.getD i false := by
  simp only [invL, List.getD_eq_getElem?_getD]
  rw [List.getElem?_append_right (by simp; omega)]
  simp [Nat.min_eq_left (Nat.le_of_lt h)]
theorem inv_store {i : Nat} {x : List Bool} (h : i < x.length) : splice (bys ((invL i x).map bitU)) (0 + i * 1) [.int .u8 ((bitU (!(invL i x).getD i false)).toNat : Int)] = bys ((invL (i + 1) x).map bitU) := by
  have hl : (bys (((x.take i).map (!·)).map bitU)).length = i := by rw [bits_len]; simp; omega
  rw [invL_at h, Nat.zero_add, Nat.mul_one]
  have e1 : invL (i + 1) x = (x.take i).map (!·) ++ (!x.getD i false) :: x.drop (i + 1) := by
    rw [invL, List.take_succ_eq_append_getElem h, List.map_append, List.append_assoc]
    simp [List.getD_eq_getElem?_getD, h]
  have e2 : invL i x = (x.take i).map (!·) ++ x.getD i false :: x.drop (i + 1) := by
    rw [invL, List.drop_eq_getElem_cons h]
    simp [List.getD_eq_getElem?_getD, h]
  rw [e1, e2, List.map_append, List.map_append, bys_append, bys_append, List.map_cons, List.map_cons, bys_cons, bys_cons, splice_one _ _ _ _ _ hl]
theorem inv_mix (x : List Bool) : invL 32 x = mixL (BitVec.allOnes 32) x := by
  apply ext_getD (by rw [invL_length, mixL_length])
  intro k hk
  rw [invL_length] at hk
  rw [mixL_get _ _ _ hk, BitVec.getLsbD_allOnes]
  simp only [invL, List.getD_eq_getElem?_getD]
  rcases Nat.lt_or_ge k 32 with h | h
  · rw [List.getElem?_append_left (by simp; omega)]
    simp [h, hk]
  · rw [List.getElem?_append_right (by simp; omega)]
    have : min 32 x.length = 32 := by omega
    simp [show ¬ k < 32 by omega, this, show 32 + (k - 32) = k by omega]
theorem divL_len : ∀ (n : Nat) (x : List Bool), n ≤ x.length → (divL n x).length = x.length - n
  | 0, x, _ => by cases x <;> rfl
  | n + 1, [], h => by simp at h
  | n + 1, a :: x, h => by
    rw [divL]
    have hx : (if a = true then (xorL (a :: x) polyL).tail else x).length = x.length := by split <;> simp [xorL_length]
    rw [divL_len n _ (by rw [hx]; simpa using h), hx]
    simp
theorem divL_succ : ∀ (n : Nat) (x : List Bool), divL (n + 1) x = divL 1 (divL n x)
  | 0, x => by cases x <;> rfl
  | n + 1, [] => rfl
  | n + 1, a :: x => by rw [divL, divL, divL_succ n]
theorem divL_one {x : List Bool} (h : 0 < x.length) : divL 1 x = if x.getD 0 false then (xorL x polyL).tail else x.tail := by
  cases x with
  | nil => simp at h
  | cons a x => simp only [divL]; cases hx : (if a = true then (xorL (a :: x) polyL).tail else x) <;> simp [← hx]
/-- A store in the midst: the place i + k of bits of which the first i are done. -/
def midL (cur : List Bool) (k : Nat) : List Bool := xorL (cur.take k) (polyL.take k) ++ cur.drop k
theorem midL_length (cur : List Bool) (k : Nat) : (midL cur k).length = cur.length := by simp [midL, xorL_length]; omega
theorem xorL_snoc : ∀ (x y : List Bool) (a b : Bool), x.length = y.length → xorL (x ++ [a]) (y ++ [b]) = xorL x y ++ [a ^^ b]
  | [], [], a, b, _ => by simp [xorL]
  | x :: xs, y :: ys, a, b, h => by simp [xorL, xorL_snoc xs ys a b (by simpa using h)]
  | [], _ :: _, _, _, h => by simp at h
  | _ :: _, [], _, _, h => by simp at h
theorem mid_at {cur : List Bool} {k : Nat} (h : k < cur.length) : (midL cur k).getD k false = cur.getD k false := by
  simp only [midL, List.getD_eq_getElem?_getD]
  rw [List.getElem?_append_right (by rw [xorL_length]; simp; omega), xorL_length]
  simp [Nat.min_eq_left (Nat.le_of_lt h)]
theorem mid_succ {cur : List Bool} {k : Nat} (h : k < cur.length) (hk : k < 33) : midL cur (k + 1) = xorL (cur.take k) (polyL.take k) ++ (cur.getD k false ^^ polyL.getD k false) :: cur.drop (k + 1) := by
  have hp : k < polyL.length := by simpa [polyL] using hk
  rw [midL, List.take_succ_eq_append_getElem h, List.take_succ_eq_append_getElem hp, xorL_snoc _ _ _ _ (by simp; omega), List.append_assoc]
  simp [List.getD_eq_getElem?_getD, h, hp]
theorem mid_all {cur : List Bool} (h : 33 ≤ cur.length) : midL cur 33 = xorL cur polyL := by
  have hp : polyL.length = 33 := by simp [polyL]
  apply ext_getD (by rw [midL_length, xorL_length])
  intro k hk
  rw [midL_length] at hk
  rw [xorL_get _ _ _ hk]
  simp only [midL, List.getD_eq_getElem?_getD]
  rcases Nat.lt_or_ge k 33 with h1 | h1
  · rw [List.getElem?_append_left (by rw [xorL_length]; simp; omega)]
    have h2 := xorL_get (cur.take 33) (polyL.take 33) k (by simp; omega)
    simp only [List.getD_eq_getElem?_getD] at h2
    rw [h2]
    simp [h1, hk]
  · rw [List.getElem?_append_right (by rw [xorL_length]; simp; omega), xorL_length]
    have e1 : min 33 cur.length = 33 := by omega
    simp [e1, show 33 + (k - 33) = k by omega, List.getElem?_eq_none (show polyL.length ≤ k by omega)]
theorem mid_store {pre cur : List Bool} {i k : Nat} (hi : pre.length = i) (h : k < cur.length) (hk : k < 33) :
    splice (bys ((pre ++ midL cur k).map bitU)) (0 + (i + k) * 1) [.int .u8 ((bitU ((midL cur k).getD k false ^^ polyL.getD k false)).toNat : Int)] = bys ((pre ++ midL cur (k + 1)).map bitU) := by
  rw [mid_at h, Nat.zero_add, Nat.mul_one, mid_succ h hk]
  have e2 : midL cur k = xorL (cur.take k) (polyL.take k) ++ cur.getD k false :: cur.drop (k + 1) := by
    rw [midL, List.drop_eq_getElem_cons h]
    simp [List.getD_eq_getElem?_getD, h]
  have hl : (bys ((pre ++ xorL (cur.take k) (polyL.take k)).map bitU)).length = i + k := by rw [bits_len, List.length_append, xorL_length]; simp; omega
  rw [e2, ← List.append_assoc, ← List.append_assoc, List.map_append, List.map_append (l₂ := _ :: cur.drop (k + 1)), bys_append, bys_append, List.map_cons, List.map_cons, bys_cons, bys_cons, splice_one _ _ _ _ _ hl]
theorem pre_at {pre cur : List Bool} {i k : Nat} (hi : pre.length = i) (h : k < cur.length) : (bys ((pre ++ cur).map bitU))[0 + (i + k) * 1]? = some (.int .u8 ((bitU (cur.getD k false)).toNat : Int)) := by
  rw [Nat.zero_add, Nat.mul_one, bits_at (by rw [List.length_append]; omega)]
  simp only [List.getD_eq_getElem?_getD]
  rw [List.getElem?_append_right (by omega), show i + k - pre.length = k by omega]
theorem pre_next {pre cur : List Bool} (h : 0 < cur.length) : pre ++ cur = (pre ++ [cur.getD 0 false]) ++ cur.tail := by
  cases cur with
  | nil => simp at h
  | cons a x => simp
/-- The sum read off: bits turned round, the first the lowest. -/
def outL (v : List Bool) : Nat → BitVec 32
  | 0 => 0#32
  | k + 1 => outL v k ||| (bitB (!v.getD k false) <<< k)
theorem outL_get (v : List Bool) : ∀ (n j : Nat), n ≤ 32 → (outL v n).getLsbD j = (decide (j < n) && !v.getD j false)
  | 0, j, _ => by simp [outL]
  | n + 1, j, h => by
    rw [outL, BitVec.getLsbD_or, outL_get v n j (by omega), BitVec.getLsbD_shiftLeft, bitB_get]
    rcases Nat.lt_trichotomy j n with h1 | h1 | h1
    · simp [h1, show j < n + 1 by omega]
    · subst h1; simp [show j < 32 by omega]
    · simp [show ¬ j < n by omega, show ¬ j < n + 1 by omega, show ¬ j - n = 0 by omega]
theorem outL_all (r : BitVec 32) : outL (mixL r (List.replicate 32 false)) 32 = ~~~ r := by
  apply BitVec.eq_of_getLsbD_eq
  intro j hj
  rw [outL_get _ 32 j (Nat.le_refl _), mixL_get _ _ _ (by simpa using hj), BitVec.getLsbD_not]
  have e : (List.replicate 32 false).getD j false = false := by rw [List.getD_eq_getElem?_getD, List.getElem?_replicate]; split <;> rfl
  rw [e]
  simp [hj]
theorem ref_sum (l : List UInt8) : outL (divL (bitsL l).length (invL 32 (bitsL l ++ List.replicate 32 false))) 32 = ofB l := by
  rw [inv_mix, divL_mix, outL_all, ofB, moreB, fold_reg]
  have : (BitVec.allOnes 32) = ~~~ (0#32) := by decide
  rw [this]
theorem bit_cell {w : World} {g m m' c : Nat} {x : List Bool} (h : Sl w (.slice (some ⟨g, 0, none⟩) m c) 1 m' (bys (x.map bitU))) (i : Nat) (hi : i < x.length) : w.cell? ⟨g, 0 + i * 1, none⟩ = some (.int .u8 ((bitU (x.getD i false)).toNat : Int)) := by
  rw [Nat.mul_one]
  exact h.get i _ (bits_at hi)
theorem bit_cell2 {w : World} {g m m' c : Nat} {pre cur : List Bool} (h : Sl w (.slice (some ⟨g, 0, none⟩) m c) 1 m' (bys ((pre ++ cur).map bitU))) (i k : Nat) (hi : pre.length = i) (hk : k < cur.length) : w.cell? ⟨g, 0 + (i + k) * 1, none⟩ = some (.int .u8 ((bitU (cur.getD k false)).toNat : Int)) := by
  have h2 := pre_at (cur := cur) hi hk
  rw [Nat.zero_add] at h2
  exact h.get ((i + k) * 1) _ h2
end Go.Mo
