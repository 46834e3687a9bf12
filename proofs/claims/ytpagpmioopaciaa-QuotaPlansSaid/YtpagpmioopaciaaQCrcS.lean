/- The sum of bytes, twice: bit by bit in a register, and as what is left of a division; they are one. -/
import Derived.Test.YtpagpmioopaciaaQWordS
set_option linter.unusedVariables false
set_option linter.unusedSimpArgs false
namespace Go.Mo
def stepB (r : BitVec 32) : BitVec 32 := if (r &&& 1#32).toNat = 1 then (r >>> 1) ^^^ 3988292384#32 else r >>> 1
def stepsB : Nat → BitVec 32 → BitVec 32
  | 0, r => r
  | k + 1, r => stepB (stepsB k r)
def turnB (r : BitVec 32) (c : UInt8) : BitVec 32 := stepsB 8 (r ^^^ BitVec.ofNat 32 c.toNat)
def moreB (s : BitVec 32) (l : List UInt8) : BitVec 32 := ~~~ (l.foldl turnB (~~~ s))
def ofB (l : List UInt8) : BitVec 32 := moreB 0#32 l
def fourL (r : BitVec 32) : List UInt8 := [UInt8.ofNat r.toNat, UInt8.ofNat (r >>> 8).toNat, UInt8.ofNat (r >>> 16).toNat, UInt8.ofNat (r >>> 24).toNat]
def holdsL (l : List UInt8) : Bool := decide (4 ≤ l.length) && decide (fourL (ofB (l.take (l.length - 4))) = l.drop (l.length - 4))
section bitops
variable {P : Program} {T : TypeId} {x y : Operand} {w : World}
end bitops
end Go.Mo
