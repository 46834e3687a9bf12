/- Sectors that bear a sum: plain lists. -/
import Derived.Test.YtblpmjbddpadcaaZCrcS
set_option linter.unusedVariables false
set_option linter.unusedSimpArgs false
namespace Go.Mo
/-- A load of a whole variable. -/
theorem rd_loadC {P : Program} {n : Nat} {f : Fm} {w : World} {o : Oper} {x : Operand} {T U : TypeId} {g sz : Nat} {d : TypeDesc} {L : List Value} (ho : o.op = .load T x) (hx : ev n f x = .pointer (some ⟨g, 0, none⟩)) (hT : P.underlying T = some d) (hd : plainT d = false)
    (hs : (P.info? T).map (·.size) = some sz) (hg : (cells g U L).at_ w) (hl : L.length = sz) : Rd P n f o w (.agg ⟨L⟩) :=
  rd_loadN ho hx hT hd hs hl fun j u hj => by rw [Nat.zero_add]; exact (cell_of_cells hg j).trans hj
def padN (n : Nat) (b : List UInt8) : List UInt8 := b ++ List.replicate (n - b.length) 0
theorem padN_length {n : Nat} {b : List UInt8} (h : b.length ≤ n) : (padN n b).length = n := by simp [padN]; omega
theorem padN_id {n : Nat} {b : List UInt8} (h : n ≤ b.length) : padN n b = b := by simp [padN, show n - b.length = 0 by omega]
/-- What the reference seals: bytes, noughts up to 252, the sum. -/
def longL (b : List UInt8) : List UInt8 := padN 252 b ++ fourL (ofB (padN 252 b))
def secL (b : List UInt8) : List UInt8 := (longL b).take 256
theorem fourL_length (r : BitVec 32) : (fourL r).length = 4 := rfl
theorem longL_length {b : List UInt8} (h : b.length ≤ 252) : (longL b).length = 256 := by rw [longL, List.length_append, padN_length h, fourL_length]
theorem longL_ge (b : List UInt8) : 256 ≤ (longL b).length := by
  rw [longL, List.length_append, fourL_length]
  simp only [padN, List.length_append, List.length_replicate]
  omega
theorem secL_length (b : List UInt8) : (secL b).length = 256 := by rw [secL, List.length_take]; have := longL_ge b; omega
theorem secL_eq {b : List UInt8} (h : b.length ≤ 252) : secL b = longL b := by rw [secL, List.take_of_length_le (by rw [longL_length h]; omega)]
theorem whole_pad {b : List UInt8} (h : b.length ≤ 256) : wholeL b = padN 256 b := by rw [wholeL, List.take_of_length_le h, padN]
theorem whole_id {b : List UInt8} (h : b.length = 256) : wholeL b = b := by rw [whole_pad (by omega), padN_id (by omega)]
theorem pad_take {b : List UInt8} (h : b.length ≤ 252) : (padN 256 b).take 252 = padN 252 b := by
  simp only [padN]
  rw [List.take_append, List.take_of_length_le h, List.take_replicate]
  congr 2
  omega
/-- What the program makes of them is the same. -/
theorem seal_whole {b : List UInt8} (h : b.length ≤ 252) : wholeL (sealL ((wholeL b).take 252)) = secL b := by
  have e1 : (wholeL b).take 252 = padN 252 b := by rw [whole_pad (by omega), pad_take h]
  rw [e1, whole_id (by rw [sealL, List.length_append, padN_length h, fourL_length]), secL_eq h]
  rfl
theorem holds_long {b : List UInt8} (h : b.length ≤ 252) : holdsL (longL b) = true := by
  rw [holdsL, longL_length h]
  have e1 : (longL b).take (256 - 4) = padN 252 b := by rw [longL, List.take_append_of_le_length (by rw [padN_length h]; decide), List.take_of_length_le (by rw [padN_length h]; decide)]
  have e2 : (longL b).drop (256 - 4) = fourL (ofB (padN 252 b)) := by
    have := padN_length h
    rw [longL, List.drop_append, List.drop_of_length_le (by omega), this]; rfl
  rw [e1, e2]
  simp
theorem long_take {b : List UInt8} (h : b.length ≤ 252) : (longL b).take 252 = padN 252 b := by
  rw [longL, List.take_append_of_le_length (by rw [padN_length h]; decide), List.take_of_length_le (by rw [padN_length h]; decide)]
/-- Any sector is such an one, or its sum does not hold or it begins otherwise. -/
theorem sec_iff {x b : List UInt8} (hx : x.length = 256) (h : b.length ≤ 252) : x = secL b ↔ holdsL x = true ∧ x.take 252 = padN 252 b := by
  constructor
  · rintro rfl
    rw [secL_eq h]
    exact ⟨holds_long h, long_take h⟩
  · rintro ⟨h1, h2⟩
    rw [holdsL, hx] at h1
    simp only [Bool.and_eq_true, decide_eq_true_eq] at h1
    rw [secL_eq h, longL, ← h2]
    have h3 : (256 - 4) = 252 := rfl
    rw [h3] at h1
    rw [h1.2, List.take_append_drop]
theorem long_bys (l : List UInt8) : bys (padN 252 l) ++ bys (putL (ofB (padN 252 l)).toNat 4) = bys (longL l) := by rw [longL, bys_append, four_put]
/-- One byte more is copied. -/
theorem copy_at {x : List UInt8} {n i : Nat} (hi : i < n) (hx : n ≤ x.length) : splice (bys (x.take i ++ List.replicate (n - i) 0)) (0 + i * 1) [.int .u8 ((x.getD i 0).toNat : Int)] = bys (x.take (i + 1) ++ List.replicate (n - (i + 1)) 0) := by
  have hl : (bys (x.take i)).length = i := by rw [bys_length, List.length_take]; omega
  have e1 : n - i = (n - (i + 1)) + 1 := by omega
  rw [Nat.zero_add, Nat.mul_one, e1, List.replicate_succ, bys_append, bys_cons, splice_one _ _ _ _ _ hl, List.take_succ_eq_append_getElem (show i < x.length by omega), List.append_assoc, bys_append]
  congr 1
  simp [bys, List.getD_eq_getElem?_getD, show i < x.length by omega]
end Go.Mo
