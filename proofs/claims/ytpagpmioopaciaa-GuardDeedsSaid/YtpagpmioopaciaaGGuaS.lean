/- Rights as bits: plain laws. -/
import Derived.Test.YtpagpmioopaciaaGBinS
import Derived.Test.YtpagpmioopaciaaGCrcS
import Derived.Test.YtpagpmioopaciaaGDigS
set_option linter.unusedVariables false
set_option linter.unusedSimpArgs false
namespace Go.Mo
open Go.RowKit
def orB (b : BitVec 32) (k : Int) : BitVec 32 := if 1 ≤ k ∧ k ≤ 18 then b ||| (BitVec.ofNat 32 1 <<< k.toNat) else b
def ofBt (l : List Int) : BitVec 32 := l.foldl orB 0#32
theorem ofBt_snoc (l : List Int) (k : Int) : ofBt (l ++ [k]) = orB (ofBt l) k := by rw [ofBt, List.foldl_append]; rfl
theorem take_ints {l : List Int} {i : Nat} (hi : i < l.length) : l.take (i + 1) = l.take i ++ [intAt l i] := by
  rw [List.take_add_one, intAt_some hi]; rfl
theorem ofBt_in {l : List Int} {i q : Nat} (hi : i < l.length) (e : intAt l i = (q : Int)) (h : 1 ≤ q ∧ q ≤ 18) : ofBt (l.take (i + 1)) = ofBt (l.take i) ||| (BitVec.ofNat 32 1 <<< q) := by
  rw [take_ints hi, ofBt_snoc, e, orB, if_pos (by omega)]; rfl
theorem ofBt_out {l : List Int} {i : Nat} (hi : i < l.length) (h : ¬ (1 ≤ intAt l i ∧ intAt l i ≤ 18)) : ofBt (l.take (i + 1)) = ofBt (l.take i) := by
  rw [take_ints hi, ofBt_snoc, orB, if_neg h]
theorem one_bit (q k : Nat) (hq : q ≤ 18) : (BitVec.ofNat 32 1 <<< q).getLsbD k = decide (k = q) := by
  rw [BitVec.getLsbD_shiftLeft]
  by_cases h : k = q
  · subst h; simp; omega
  · rw [decide_eq_false h]
    by_cases h2 : k < q
    · simp [h2]
    · have : (BitVec.ofNat 32 1).getLsbD (k - q) = false := by
        rw [BitVec.getLsbD_ofNat]
        have h3 : Nat.testBit 1 (k - q) = false := by
          exact Nat.testBit_lt_two_pow (Nat.one_lt_two_pow (by omega))
        simp [h3]
      simp [this]
theorem ofBt_bit (l : List Int) (k : Nat) : (ofBt l).getLsbD k = decide (1 ≤ k ∧ k ≤ 18 ∧ (k : Int) ∈ l) := by
  have key : ∀ (l : List Int) (b : BitVec 32), (l.foldl orB b).getLsbD k = (b.getLsbD k || decide (1 ≤ k ∧ k ≤ 18 ∧ (k : Int) ∈ l)) := by
    intro l
    induction l with
    | nil => intro b; simp
    | cons a l ih =>
      intro b
      rw [List.foldl_cons, ih]
      unfold orB
      split
      · rename_i h
        rw [BitVec.getLsbD_or, one_bit _ _ (by omega), Bool.or_assoc]
        congr 1
        rw [Bool.eq_iff_iff]
        simp only [Bool.or_eq_true, decide_eq_true_eq, List.mem_cons]
        constructor
        · rintro (e | e)
          · exact ⟨by omega, by omega, .inl (by omega)⟩
          · exact ⟨e.1, e.2.1, .inr e.2.2⟩
        · rintro ⟨e1, e2, e | e⟩
          · exact .inl (by omega)
          · exact .inr ⟨e1, e2, e⟩
      · rename_i h
        congr 1
        rw [decide_eq_decide]
        simp only [List.mem_cons]
        constructor
        · rintro ⟨e1, e2, e⟩; exact ⟨e1, e2, .inr e⟩
        · rintro ⟨e1, e2, e | e⟩
          · exact absurd ⟨by omega, by omega⟩ h
          · exact ⟨e1, e2, e⟩
  rw [ofBt, key]; simp
def hasB (r : BitVec 32) (k : Int) : Bool := decide (1 ≤ k ∧ k ≤ 18) && r.getLsbD k.toNat
theorem has_out {r : BitVec 32} {k : Int} (h : ¬ (1 ≤ k ∧ k ≤ 18)) : hasB r k = false := by rw [hasB, decide_eq_false h]; rfl
theorem bit_is (r : BitVec 32) (q : Nat) : decide ((((r >>> q) &&& 1#32).toNat : Int) = 1) = r.getLsbD q := by
  have h : ((r >>> q) &&& 1#32).toNat = r.toNat / 2 ^ q % 2 := by
    rw [BitVec.toNat_and, BitVec.toNat_ushiftRight, show (1#32).toNat = 1 from rfl, Nat.and_one_is_mod, Nat.shiftRight_eq_div_pow]
  rw [h, BitVec.getLsbD, Nat.testBit_eq_decide_div_mod_eq, decide_eq_decide]
  omega
theorem has_in {r : BitVec 32} {q : Nat} (h : 1 ≤ q ∧ q ≤ 18) : hasB r (q : Int) = decide ((((r >>> q) &&& 1#32).toNat : Int) = 1) := by
  rw [bit_is, hasB, decide_eq_true (by omega)]; rfl
def allK (n : Nat) : List Int := (List.range n).map fun i => ((i + 1 : Nat) : Int)
theorem allK_succ (n : Nat) : allK (n + 1) = allK n ++ [((n + 1 : Nat) : Int)] := by simp [allK, List.range_succ]
theorem allK_len (n : Nat) : (allK n).length = n := by simp [allK]
def opsK (r : BitVec 32) (n : Nat) : List Int := (allK n).filter (hasB r)
theorem opsK_yes {r : BitVec 32} {n : Nat} (h : hasB r ((n + 1 : Nat) : Int) = true) : opsK r (n + 1) = opsK r n ++ [((n + 1 : Nat) : Int)] := by
  unfold opsK; rw [allK_succ, List.filter_append, List.filter_cons, if_pos h]; rfl
theorem opsK_no {r : BitVec 32} {n : Nat} (h : hasB r ((n + 1 : Nat) : Int) = false) : opsK r (n + 1) = opsK r n := by
  unfold opsK; rw [allK_succ, List.filter_append, List.filter_cons, if_neg (by rw [h]; decide), List.filter_nil, List.append_nil]
theorem opsK_len (r : BitVec 32) (n : Nat) : (opsK r n).length ≤ n := by
  have := List.length_filter_le (hasB r) (allK n)
  rw [allK_len] at this; exact this
/-- The reference's: those that are met, rising. -/
def metO (l : List Int) (k : Int) : Bool := decide (k ∈ l)
def opsL (l : List Int) (n : Nat) : List Int := (allK n).filter (metO l)
theorem opsL_yes {l : List Int} {n : Nat} (h : metO l ((n + 1 : Nat) : Int) = true) : opsL l (n + 1) = opsL l n ++ [((n + 1 : Nat) : Int)] := by
  unfold opsL; rw [allK_succ, List.filter_append, List.filter_cons, if_pos h]; rfl
theorem opsL_no {l : List Int} {n : Nat} (h : metO l ((n + 1 : Nat) : Int) = false) : opsL l (n + 1) = opsL l n := by
  unfold opsL; rw [allK_succ, List.filter_append, List.filter_cons, if_neg (by rw [h]; decide), List.filter_nil, List.append_nil]
theorem opsL_len (l : List Int) (n : Nat) : (opsL l n).length ≤ n := by
  have := List.length_filter_le (metO l) (allK n)
  rw [allK_len] at this; exact this
theorem metO_take {l : List Int} {k : Int} {i : Nat} (hi : i < l.length) : metO (l.take (i + 1)) k = (metO (l.take i) k || decide (intAt l i = k)) := by
  unfold metO
  rw [take_ints hi]
  by_cases a : k ∈ l.take i <;> by_cases b : intAt l i = k <;> simp [a, b]
  exact fun e => b e.symm
theorem mem_allK {n : Nat} {k : Int} : k ∈ allK n ↔ 1 ≤ k ∧ k ≤ n := by
  simp only [allK, List.mem_map, List.mem_range]
  constructor
  · rintro ⟨i, hi, rfl⟩; omega
  · rintro ⟨h1, h2⟩; exact ⟨k.toNat - 1, by omega, by omega⟩
/-- The rights to kinds have those kinds. -/
theorem ops_same (l : List Int) : opsK (ofBt l) 18 = opsL l 18 := by
  unfold opsK opsL
  apply List.filter_congr
  intro k hk
  have h := mem_allK.1 hk
  obtain ⟨q, rfl⟩ : ∃ q : Nat, k = (q : Int) := ⟨k.toNat, by omega⟩
  rw [hasB, decide_eq_true (by omega), Bool.true_and, Int.toNat_natCast, ofBt_bit, metO, decide_eq_decide]
  constructor
  · exact fun e => e.2.2
  · exact fun e => ⟨by omega, by omega, e⟩
theorem of_ops (x : BitVec 32) : ofBt (opsK x 18) = x &&& ofBt (opsL (allK 18) 18) := by
  apply BitVec.eq_of_getLsbD_eq
  intro k hk
  rw [ofBt_bit, BitVec.getLsbD_and, ofBt_bit]
  have h1 : (k : Int) ∈ opsK x 18 ↔ (1 ≤ k ∧ k ≤ 18) ∧ x.getLsbD k = true := by
    unfold opsK
    rw [List.mem_filter, mem_allK, hasB]
    simp only [Bool.and_eq_true, decide_eq_true_eq, Int.toNat_natCast]
    constructor
    · rintro ⟨a, b, c⟩; exact ⟨by omega, c⟩
    · rintro ⟨a, c⟩; exact ⟨by omega, by omega, c⟩
  have h2 : (k : Int) ∈ opsL (allK 18) 18 ↔ 1 ≤ k ∧ k ≤ 18 := by
    unfold opsL metO
    rw [List.mem_filter]; simp only [decide_eq_true_eq, mem_allK]; omega
  rw [Bool.eq_iff_iff]
  simp only [Bool.and_eq_true, decide_eq_true_eq, h1, h2]
  constructor
  · rintro ⟨a, b, c, d⟩; exact ⟨d, a, b, a, b⟩
  · rintro ⟨d, a, b, _⟩; exact ⟨a, b, ⟨a, b⟩, d⟩
theorem has_met (l : List Int) (k : Int) : hasB (ofBt l) k = decide (k ∈ opsL l 18) := by
  unfold opsL
  rw [Bool.eq_iff_iff, decide_eq_true_eq, List.mem_filter, mem_allK]
  unfold hasB metO
  simp only [Bool.and_eq_true, decide_eq_true_eq]
  constructor
  · rintro ⟨h, e⟩
    obtain ⟨q, rfl⟩ : ∃ q : Nat, k = (q : Int) := ⟨k.toNat, by omega⟩
    rw [Int.toNat_natCast, ofBt_bit, decide_eq_true_eq] at e
    exact ⟨by omega, e.2.2⟩
  · rintro ⟨h, e⟩
    obtain ⟨q, rfl⟩ : ∃ q : Nat, k = (q : Int) := ⟨k.toNat, by omega⟩
    refine ⟨by omega, ?_⟩
    rw [Int.toNat_natCast, ofBt_bit, decide_eq_true_eq]
    exact ⟨by omega, by omega, e⟩
theorem int_extG {l l' : List Int} (h : l.length = l'.length) (hall : ∀ j, j < l.length → intAt l j = intAt l' j) : l = l' := by
  apply List.ext_getElem?
  intro j
  by_cases hj : j < l.length
  · rw [intAt_some hj, intAt_some (by omega), hall j hj]
  · rw [List.getElem?_eq_none (by omega), List.getElem?_eq_none (by omega)]
theorem inR_snoc (T : Nat) (v : Value) (L : List Int) (c : Int) : Res.row T 1 v (L.length + 1) (L.map (Value.int .i64) ++ [.int .i64 c]) = Res.row T 1 v (L ++ [c]).length ((L ++ [c]).map (Value.int .i64)) := by rw [List.map_append, List.length_append]; rfl
end Go.Mo
