/- Sectors that bear a sum: plain lists. -/
import Derived.Test.YtpagpmioopaciaaGCrcS
set_option linter.unusedVariables false
set_option linter.unusedSimpArgs false
namespace Go.Mo
/-- A load of a whole variable. -/
theorem rd_loadC {P : Program} {n : Nat} {f : Fm} {w : World} {o : Oper} {x : Operand} {T U : TypeId} {g sz : Nat} {d : TypeDesc} {L : List Value} (ho : o.op = .load T x) (hx : ev n f x = .pointer (some ⟨g, 0, none⟩)) (hT : P.underlying T = some d) (hd : plainT d = false)
    (hs : (P.info? T).map (·.size) = some sz) (hg : (cells g U L).at_ w) (hl : L.length = sz) : Rd P n f o w (.agg ⟨L⟩) :=
  rd_loadN ho hx hT hd hs hl fun j u hj => by rw [Nat.zero_add]; exact (cell_of_cells hg j).trans hj
def padN (n : Nat) (b : List UInt8) : List UInt8 := b ++ List.replicate (n - b.length) 0
theorem padN_length {n : Nat} {b : List UInt8} (h : b.length ≤ n) : (padN n b).length = n := by simp [padN]; omega
/-- What the reference seals: bytes, noughts up to 252, the sum. -/
def longL (b : List UInt8) : List UInt8 := padN 252 b ++ fourL (ofB (padN 252 b))
def secL (b : List UInt8) : List UInt8 := (longL b).take 256
theorem fourL_length (r : BitVec 32) : (fourL r).length = 4 := rfl
theorem longL_length {b : List UInt8} (h : b.length ≤ 252) : (longL b).length = 256 := by rw [longL, List.length_append, padN_length h, fourL_length]
theorem secL_eq {b : List UInt8} (h : b.length ≤ 252) : secL b = longL b := by rw [secL, List.take_of_length_le (by rw [longL_length h]; omega)]
theorem holds_long {b : List UInt8} (h : b.length ≤ 252) : holdsL (longL b) = true := by
  rw [holdsL, longL_length h]
  have e1 : (longL b).take (256 - 4) = padN 252 b := by rw [longL, List.take_append_of_le_length (by rw [padN_length h]; decide), List.take_of_length_le (by rw [padN_length h]; decide)]
  have e2 : (longL b).drop (256 - 4) = fourL (ofB (padN 252 b)) := by
    have := padN_length h
    rw [longL, List.drop_append, List.drop_of_length_le (by omega), this]; rfl
  rw [e1, e2]
  simp
theorem long_take {b : List UInt8} (h : b.length ≤ 252) : (longL b).take 252 = padN 252 b := by
  rw [longL, List.take_append_of_le_length (by rw [padN_length h]; decide), List.take_of_length_le (by rw [padN_length h]; decide)]
end Go.Mo
