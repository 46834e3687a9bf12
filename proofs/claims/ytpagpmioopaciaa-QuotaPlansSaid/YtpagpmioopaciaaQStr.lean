/- Structs of numbers, texts, bits and rows of bytes: when two are equal. -/
import Derived.Test.YtpagpmioopaciaaQClassS
set_option linter.unusedVariables false
set_option linter.unusedSimpArgs false
namespace Go.Mo
open Go.RowKit Go.Lib
inductive FT where
  | i (k : IntKind)
  | s
  | b
  | a (n : Nat)
inductive FV where
  | i (k : IntKind) (n : Int)
  | s (t : ByteArray)
  | b (v : Bool)
  | a (l : List UInt8)
def FV.cells : FV → List Value
  | .i k n => [.int k n]
  | .s t => [.string t]
  | .b v => [.bool v]
  | .a l => bys l
def FT.size : FT → Nat
  | .a n => n
  | _ => 1
def FV.ok : FV → FT → Prop
  | .i k _, .i k' => k = k'
  | .s _, .s => True
  | .b _, .b => True
  | .a l, .a n => l.length = n
  | _, _ => False
def fvEq : FV → FV → Bool
  | .i _ n, .i _ m => decide (n = m)
  | .s t, .s u => decide (t = u)
  | .b v, .b u => v == u
  | .a l, .a m => decide (l = m)
  | _, _ => false
def fvsEq : List FV → List FV → Bool
  | x :: xs, y :: ys => fvEq x y && fvsEq xs ys
  | _, _ => true
def fvC (l : List FV) : List Value := l.flatMap FV.cells
end Go.Mo
