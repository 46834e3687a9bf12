/- Clips read back: plain laws. -/
import Derived.Test.YtpagpmioopaciaaQBinS
set_option linter.unusedVariables false
set_option linter.unusedSimpArgs false
namespace Go.Mo
open Go.RowKit Go.Lib
theorem clipC_one (c : Clp) (A B : Option Addr) (n m ch ct : Nat) : ∀ u ∈ clipC c (.slice A n ch) (.slice B m ct), u.oneCell' = true := by
  intro u hu
  rw [clipC] at hu
  rcases List.mem_append.1 hu with h | h
  · exact bys_one _ u h
  · simp only [List.mem_cons, List.not_mem_nil, or_false] at h
    rcases h with h | h | h | h | h | h | h <;> subst h <;> rfl
abbrev CS := Bool × List UInt8
def sB (s : CS) (k : Int) : CS := (!curOk s.1 s.2 k, curL s.1 s.2 k)
def sT (s : CS) (k : Int) : CS := (curTextBad s.1 s.2 k, curL s.1 s.2 k)
def sN (s : CS) (k : Int) : Nat := curNum s.1 s.2 k
def sX (s : CS) (k : Int) : ByteArray := ⟨(curText s.1 s.2 k).toArray⟩
theorem curOut_len (b : Bool) (l : List UInt8) (k : Nat) (h : k ≤ 256) : (curOut b l (k : Int)).length = k := by
  unfold curOut; split
  · rename_i h1
    simp only [curOk, Bool.and_eq_true, decide_eq_true_eq] at h1
    rw [List.length_take]; omega
  · rw [List.length_replicate]; omega
def txRun (s : CS) : Nat → List ByteArray × CS
  | 0 => ([], s)
  | n + 1 => ((txRun s n).1 ++ [sX (txRun s n).2 16], sT (txRun s n).2 16)
def nmRun (s : CS) : Nat → List Int × CS
  | 0 => ([], s)
  | n + 1 => ((nmRun s n).1 ++ [(sN (nmRun s n).2 1 : Int)], sB (nmRun s n).2 1)
def k1 (l : List UInt8) : CS := sB (false, l) 4
def k2 (l : List UInt8) : CS := sB (k1 l) 32
def k3 (l : List UInt8) : CS := sB (k2 l) 1
def k4 (l : List UInt8) : CS := sB (k3 l) 6
def k5 (l : List UInt8) : CS := sB (k4 l) 1
def k6 (l : List UInt8) : CS := sB (k5 l) 6
def k7 (l : List UInt8) : CS := sT (k6 l) 32
def k8 (l : List UInt8) : CS := sB (k7 l) 1
def nH (l : List UInt8) : Nat := min (sN (k7 l) 1) 5
def k9 (l : List UInt8) : CS := (txRun (k8 l) (nH l)).2
def k10 (l : List UInt8) : CS := sB (k9 l) 1
def nT (l : List UInt8) : Nat := min (sN (k9 l) 1) 5
def k11 (l : List UInt8) : CS := (nmRun (k10 l) (nT l)).2
def rA (l : List UInt8) : A32 := ⟨curOut (k1 l).1 (k1 l).2 32, curOut_len _ _ 32 (by decide)⟩
def rC (l : List UInt8) : Clp := ⟨rA l, sN (k2 l) 1, sN (k3 l) 6, decide ((sN (k4 l) 1 : Int) = 1), sN (k5 l) 6, (txRun (k8 l) (nH l)).1, sX (k6 l) 32, (nmRun (k10 l) (nT l)).1⟩
def clpZ : Clp := ⟨a32Z, 0, 0, false, 0, [], ⟨#[]⟩, []⟩
def rTag (l : List UInt8) : Bool := decide (curOut false l 4 = [67, 76, 73, 80])
def rOk (l : List UInt8) : Bool := rTag l && (!(k11 l).1 && zeroL (k11 l).2) && decide (sN (k4 l) 1 < 2)
def rV (l : List UInt8) : Clp := if rTag l = true then rC l else clpZ
def gZ (x : List UInt8) : Prop := x = List.replicate 256 0
instance (x : List UInt8) : Decidable (gZ x) := by unfold gZ; infer_instance
def gOk (x : List UInt8) (m k : Int) : Bool := decide (¬ gZ x) && holdsL x && rOk (x.take 252) && decide (clpC (rV (x.take 252)) m k = 0)
def gV (x : List UInt8) (m k : Int) : Clp := if gOk x m k = true then rV (x.take 252) else clpZ
end Go.Mo
