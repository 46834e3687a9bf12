/- A burst of up to 32 bits is seen by the sum: plain laws. -/
import Derived.Test.YtpagpmioopaciaaGreatPCrcS
set_option linter.unusedVariables false
set_option linter.unusedSimpArgs false
namespace Go.Mo
theorem step_xor (a b : BitVec 32) : stepB (a ^^^ b) = stepB a ^^^ stepB b := by
  apply BitVec.eq_of_getLsbD_eq
  intro k hk
  simp only [stepB_get, BitVec.getLsbD_xor]
  cases a.getLsbD (1 + k) <;> cases b.getLsbD (1 + k) <;> cases a.getLsbD 0 <;> cases b.getLsbD 0 <;> cases (3988292384#32).getLsbD k <;> rfl
theorem step_zero : stepB 0#32 = 0#32 := by decide
theorem step_inj {a : BitVec 32} (h : stepB a = 0#32) : a = 0#32 := by
  have h0 : a.getLsbD 0 = false := by
    have := congrArg (fun x : BitVec 32 => x.getLsbD 31) h
    simp only [stepB_get] at this
    rw [BitVec.getLsbD_of_ge a (1 + 31) (by decide), show (3988292384#32).getLsbD 31 = true from by decide] at this
    simpa using this
  apply BitVec.eq_of_getLsbD_eq
  intro k hk
  rcases k with _ | k
  · rw [h0]; simp
  · have := congrArg (fun x : BitVec 32 => x.getLsbD k) h
    simp only [stepB_get] at this
    rw [h0, Nat.add_comm 1 k] at this
    simpa using this
theorem steps_inj : ∀ (k : Nat) {a : BitVec 32}, stepsC k a = 0#32 → a = 0#32
  | 0, _, h => h
  | k + 1, _, h => step_inj (steps_inj k h)
theorem regL_in32 : ∀ (l : List Bool) (r : BitVec 32), l.length ≤ 32 → stepsC l.length (r ^^^ inB l) = regL r l
  | [], r, _ => by simp [stepsC, inB, regL]
  | b :: l, r, h => by
    simp only [List.length_cons] at h
    rw [List.length_cons, stepsC, inB, regL, ← BitVec.xor_assoc, step_in _ _ (by
      have := inB_get l 31 (by omega)
      rw [this, List.getD_eq_getElem?_getD, List.getElem?_eq_none (by omega)]
      rfl)]
    exact regL_in32 l _ (by omega)
theorem bitB_xor (a b : Bool) : bitB (a ^^ b) = bitB a ^^^ bitB b := by cases a <;> cases b <;> decide
theorem regL_xor : ∀ (x e : List Bool) (r s : BitVec 32), x.length = e.length → regL (r ^^^ s) (xorL x e) = regL r x ^^^ regL s e
  | [], [], r, s, _ => rfl
  | [], _ :: _, _, _, h => by simp at h
  | _ :: _, [], _, _, h => by simp at h
  | a :: x, b :: e, r, s, h => by
    rw [xorL, regL, regL, regL, ← regL_xor x e _ _ (by simpa using h), bitB_xor, ← step_xor]
    congr 2
    simp only [BitVec.xor_assoc]
    congr 1
    rw [← BitVec.xor_assoc, ← BitVec.xor_assoc, BitVec.xor_comm s (bitB a)]
theorem regL_zeros : ∀ (m : Nat) (r : BitVec 32), regL r (List.replicate m false) = stepsC m r
  | 0, _ => rfl
  | m + 1, r => by rw [List.replicate_succ, regL, stepsC, show bitB false = 0#32 from rfl, BitVec.xor_zero, regL_zeros m]
theorem steps_zero : ∀ k, stepsC k 0#32 = 0#32
  | 0 => rfl
  | k + 1 => by rw [stepsC, step_zero, steps_zero k]
def mskL (m : Nat) : List Bool := (List.range 32).map fun k => m.testBit k
theorem inB_msk {m : Nat} (h : m < 4294967296) : inB (mskL m) = BitVec.ofNat 32 m := by
  apply BitVec.eq_of_getLsbD_eq
  intro k hk
  rw [inB_get _ _ hk, BitVec.getLsbD_ofNat, List.getD_eq_getElem?_getD]
  simp [mskL, hk]
def brst (n m z : Nat) : List Bool := List.replicate n false ++ mskL m ++ List.replicate z false
theorem brst_reg {n m z : Nat} (hm : m < 4294967296) (h0 : m ≠ 0) : regL 0#32 (brst n m z) ≠ 0#32 := by
  intro h
  rw [brst, regL_append, regL_append, regL_zeros n, steps_zero, regL_zeros z, ← regL_in32 (mskL m) _ (by simp [mskL]), inB_msk hm] at h
  have := steps_inj _ (steps_inj _ h)
  rw [BitVec.zero_xor] at this
  have e := congrArg BitVec.toNat this
  rw [BitVec.toNat_ofNat, Nat.mod_eq_of_lt hm] at e
  exact h0 e
theorem four_bits (r : BitVec 32) : inB (bitsL (fourL r)) = r := by
  apply BitVec.eq_of_getLsbD_eq
  intro k hk
  rw [inB_get _ _ hk, List.getD_eq_getElem?_getD]
  have hb : ∀ j q, q < 8 → (UInt8.ofNat (r.toNat >>> j)).toNat.testBit q = r.getLsbD (j + q) := fun j q hq => by
    rw [UInt8.toNat_ofNat', show (2 : Nat) ^ 8 = 2 ^ 8 from rfl, Nat.testBit_mod_two_pow, decide_eq_true hq, Bool.true_and, Nat.testBit_shiftRight]; rfl
  have hc : ∀ q, q < 32 → (bitsL (fourL r))[q]? = some (r.getLsbD q) := fun q hq => by
    simp only [bitsL, fourL, List.flatMap_cons, List.flatMap_nil, List.append_nil, BitVec.toNat_ushiftRight]
    have h8 : ∀ c : UInt8, (bits8 c).length = 8 := fun c => by simp [bits8]
    have hg : ∀ (c : UInt8) (i : Nat), i < 8 → (bits8 c)[i]? = some (c.toNat.testBit i) := fun c i hi => by simp [bits8, hi]
    rcases Nat.lt_or_ge q 8 with h | h
    · rw [List.getElem?_append_left (by rw [h8]; exact h), hg _ _ h]
      have := hb 0 q h
      rw [Nat.zero_add] at this
      rw [← this]; rfl
    rw [List.getElem?_append_right (by rw [h8]; exact h), h8]
    rcases Nat.lt_or_ge q 16 with h2 | h2
    · rw [List.getElem?_append_left (by rw [h8]; omega), hg _ _ (by omega), hb 8 (q - 8) (by omega), show 8 + (q - 8) = q by omega]
    rw [List.getElem?_append_right (by rw [h8]; omega), h8]
    rcases Nat.lt_or_ge q 24 with h3 | h3
    · rw [List.getElem?_append_left (by rw [h8]; omega), hg _ _ (by omega), hb 16 (q - 8 - 8) (by omega), show 16 + (q - 8 - 8) = q by omega]
    rw [List.getElem?_append_right (by rw [h8]; omega), h8, hg _ _ (by omega), hb 24 (q - 8 - 8 - 8) (by omega), show 24 + (q - 8 - 8 - 8) = q by omega]
  rw [hc k hk]; rfl
/-- Bytes that end with their sum leave one register. -/
theorem holds_reg {l : List UInt8} (h : holdsL l = true) : regL (~~~ 0#32) (bitsL l) = stepsC 32 (~~~ 0#32) := by
  simp only [holdsL, Bool.and_eq_true, decide_eq_true_eq] at h
  have e : bitsL l = bitsL (l.take (l.length - 4)) ++ bitsL (fourL (ofB (l.take (l.length - 4)))) := by
    rw [h.2, bitsL, bitsL, bitsL, ← List.flatMap_append, List.take_append_drop]
  have e2 : ofB (l.take (l.length - 4)) = ~~~ regL (~~~ 0#32) (bitsL (l.take (l.length - 4))) := by rw [ofB, moreB, fold_reg]
  rw [e, regL_append, e2]
  have h4 : (bitsL (fourL (~~~ regL (~~~ 0#32) (bitsL (l.take (l.length - 4)))))).length = 32 := by rw [bitsL_length]; rfl
  rw [← regL_in32 _ _ (by omega), h4, four_bits]
  congr 1
  apply BitVec.eq_of_getLsbD_eq
  intro k hk
  rw [BitVec.getLsbD_xor, BitVec.getLsbD_not, BitVec.getLsbD_not, BitVec.getLsbD_zero, decide_eq_true hk]
  cases (regL (~~~ 0#32) (bitsL (l.take (l.length - 4)))).getLsbD k <;> rfl
theorem burst_seen {p q : List UInt8} {n m z : Nat} (hl : q.length = p.length) (hz : n + 32 + z = 8 * p.length) (hm : m < 4294967296) (h0 : m ≠ 0) (hq : ∀ j, j < 8 * p.length → (bitsL q).getD j false = ((bitsL p).getD j false ^^ (decide (n ≤ j ∧ j < n + 32) && m.testBit (j - n)))) (hp : holdsL p = true) : holdsL q = false := by
  have hbl : (brst n m z).length = 8 * p.length := by simp [brst, mskL]; omega
  have hg : ∀ j, j < 8 * p.length → (brst n m z).getD j false = (decide (n ≤ j ∧ j < n + 32) && m.testBit (j - n)) := by
    intro j hj
    rw [brst, List.append_assoc, List.getD_eq_getElem?_getD]
    rcases Nat.lt_or_ge j n with h | h
    · rw [List.getElem?_append_left (by simpa using h)]
      simp [h, show ¬ n ≤ j by omega]
    rw [List.getElem?_append_right (by simpa using h), List.length_replicate]
    rcases Nat.lt_or_ge j (n + 32) with h2 | h2
    · rw [List.getElem?_append_left (by simp [mskL]; omega)]
      simp [mskL, h, h2, show j - n < 32 by omega]
    · rw [List.getElem?_append_right (by simp [mskL]; omega)]
      simp only [mskL, List.length_map, List.length_range, List.getElem?_replicate]
      rw [decide_eq_false (show ¬ (n ≤ j ∧ j < n + 32) by omega)]
      split <;> rfl
  have e : bitsL q = xorL (bitsL p) (brst n m z) := by
    refine ext_getD (by rw [xorL_length, bitsL_length, bitsL_length, hl]) fun k hk => ?_
    have hk' : k < 8 * p.length := by rw [bitsL_length, hl] at hk; exact hk
    rw [hq k hk', xorL_get _ _ _ (by rw [bitsL_length]; exact hk'), hg k hk']
  cases hh : holdsL q with
  | false => rfl
  | true =>
    have h1 := holds_reg hp
    have h2 := holds_reg hh
    have h3 := regL_xor (bitsL p) (brst n m z) (~~~ 0#32) 0#32 (by rw [bitsL_length, hbl])
    rw [BitVec.xor_zero, ← e, h2, h1] at h3
    exact absurd (by
      have h4 := congrArg (fun x => stepsC 32 (~~~ 0#32) ^^^ x) h3
      simp only [BitVec.xor_self, ← BitVec.xor_assoc, BitVec.zero_xor] at h4
      exact h4.symm) (brst_reg hm h0)
/-- One bit turned. -/
def flipB (p : List UInt8) (j : Nat) : List UInt8 := p.set (j / 8) (p.getD (j / 8) 0 ^^^ UInt8.ofNat (2 ^ (j % 8)))
theorem flipB_len (p : List UInt8) (j : Nat) : (flipB p j).length = p.length := List.length_set
theorem bitsL_at (p : List UInt8) (k : Nat) (hk : k < 8 * p.length) : (bitsL p).getD k false = (p.getD (k / 8) 0).toNat.testBit (k % 8) := by
  induction p generalizing k with
  | nil => simp at hk
  | cons c p ih =>
    have e : bitsL (c :: p) = bits8 c ++ bitsL p := rfl
    have h8 : (bits8 c).length = 8 := by simp [bits8]
    rw [e, List.getD_eq_getElem?_getD]
    rcases Nat.lt_or_ge k 8 with h | h
    · rw [List.getElem?_append_left (by omega), Nat.div_eq_of_lt h, Nat.mod_eq_of_lt h]
      simp [bits8, h]
    · rw [List.getElem?_append_right (by omega), h8]
      have := ih (k - 8) (by simp only [List.length_cons] at hk; omega)
      rw [List.getD_eq_getElem?_getD] at this
      have e1 : k / 8 = (k - 8) / 8 + 1 := by omega
      have e2 : (k - 8) % 8 = k % 8 := by omega
      rw [this, e1, List.getD_cons_succ, e2]
theorem flip_at (p : List UInt8) (j k : Nat) (hj : j < 8 * p.length) (hk : k < 8 * p.length) : (bitsL (flipB p j)).getD k false = ((bitsL p).getD k false ^^ decide (k = j)) := by
  rw [bitsL_at _ _ (by rw [flipB_len]; exact hk), bitsL_at _ _ hk]
  unfold flipB
  by_cases h : k / 8 = j / 8
  · rw [h, List.getD_eq_getElem?_getD, List.getElem?_set_self (by omega)]
    simp only [Option.getD_some, UInt8.toNat_xor, Nat.testBit_xor]
    congr 1
    have e : (UInt8.ofNat (2 ^ (j % 8))).toNat = 2 ^ (j % 8) := by
      rw [UInt8.toNat_ofNat', Nat.mod_eq_of_lt (Nat.pow_lt_pow_right (by decide) (Nat.mod_lt _ (by decide)))]
    rw [e, Nat.testBit_two_pow]
    by_cases h2 : k = j
    · subst h2; simp
    · rw [decide_eq_false h2, decide_eq_false (by omega)]
  · rw [List.getD_eq_getElem?_getD, List.getElem?_set_ne (fun q => h q.symm), ← List.getD_eq_getElem?_getD]
    rw [decide_eq_false (show ¬ k = j from fun q => h (by rw [q])), Bool.xor_false]
/-- The first k bits of a mask, from a bit on. -/
def flips (p : List UInt8) (n m : Nat) : Nat → List UInt8
  | 0 => p
  | k + 1 => if m.testBit k then flipB (flips p n m k) (n + k) else flips p n m k
theorem flips_len (p : List UInt8) (n m : Nat) : ∀ k, (flips p n m k).length = p.length
  | 0 => rfl
  | k + 1 => by rw [flips]; split <;> simp [flipB_len, flips_len p n m k]
theorem flips_at (p : List UInt8) (n m : Nat) : ∀ k, n + k ≤ 8 * p.length → ∀ j, j < 8 * p.length → (bitsL (flips p n m k)).getD j false = ((bitsL p).getD j false ^^ (decide (n ≤ j ∧ j < n + k) && m.testBit (j - n)))
  | 0, _, j, _ => by rw [flips, decide_eq_false (by omega)]; simp
  | k + 1, hk, j, hj => by
    have ih := flips_at p n m k (by omega) j hj
    rw [flips]
    by_cases hb : m.testBit k = true
    · rw [if_pos hb, flip_at _ _ _ (by rw [flips_len]; omega) (by rw [flips_len]; exact hj), ih]
      by_cases h : j = n + k
      · subst h
        rw [decide_eq_true rfl, decide_eq_false (show ¬ (n ≤ n + k ∧ n + k < n + k) by omega), decide_eq_true (show n ≤ n + k ∧ n + k < n + (k + 1) by omega), Nat.add_sub_cancel_left, hb]; simp
      · rw [decide_eq_false h, Bool.xor_false]
        congr 2
        exact decide_eq_decide.2 (by omega)
    · rw [if_neg hb, ih]
      by_cases h : j = n + k
      · subst h
        rw [decide_eq_false (show ¬ (n ≤ n + k ∧ n + k < n + k) by omega), Nat.add_sub_cancel_left, Bool.not_eq_true _ |>.mp hb]; simp
      · congr 2
        exact decide_eq_decide.2 (by omega)
theorem flips_seen {p : List UInt8} {n m : Nat} (hn : n + 32 ≤ 8 * p.length) (hm : m < 4294967296) (h0 : m ≠ 0) (hp : holdsL p = true) : holdsL (flips p n m 32) = false :=
  burst_seen (z := 8 * p.length - n - 32) (flips_len p n m 32) (by omega) hm h0 (flips_at p n m 32 hn) hp
end Go.Mo
