/- Sums of texts, and of trees: plain laws. -/
import Derived.Test.YtpagpmioopaciaaBChkS
import Derived.Test.YtpagpmioopaciaaBCloS
set_option linter.unusedVariables false
set_option linter.unusedSimpArgs false
namespace Go.Mo
open Go.RowKit
def txtW : List UInt8 := [116, 101, 120, 116]
def txSaid (n : Nat) (l : List A32) : List UInt8 := txtW ++ putL n 4 ++ laidA l
theorem txSaid_length (n : Nat) (l : List A32) : (txSaid n l).length = 8 + 32 * l.length := by
  simp only [txSaid, txtW, List.length_append, putL_length, laidA_length, List.length_cons, List.length_nil]
def txSum (n : Nat) (l : List A32) : A32 := ⟨sumB (txSaid n l), sumB_length _⟩
def txOf (b : List UInt8) : A32 := txSum b.length (adrsC b)
def leafW : List UInt8 := [108, 101, 97, 102]
def nodeW : List UInt8 := [110, 111, 100, 101]
def rootW : List UInt8 := [114, 111, 111, 116]
def lvS (i : Nat) (b : List UInt8) : A32 := ⟨sumB (leafW ++ (putL i 4 ++ b)), sumB_length _⟩
def ndS (a b : A32) : A32 := ⟨sumB (nodeW ++ (a.1 ++ b.1)), sumB_length _⟩
def rtS (n : Nat) (a : A32) : A32 := ⟨sumB (rootW ++ (putL n 4 ++ a.1)), sumB_length _⟩
def upL : List A32 → List A32
  | a :: b :: l => ndS a b :: upL l
  | l => l
theorem upL_even : ∀ (n : Nat) (a b : List A32), a.length = 2 * n → upL (a ++ b) = upL a ++ upL b
  | 0, a, b, h => by
    have : a = [] := List.length_eq_zero_iff.1 (by omega)
    subst this
    simp [upL]
  | n + 1, [], b, h => by simp at h
  | n + 1, [x], b, h => by simp at h; omega
  | n + 1, x :: y :: a, b, h => by
    simp only [List.cons_append, upL]
    rw [upL_even n a b (by simp at h; omega)]
theorem upL_length : ∀ (n : Nat) (l : List A32), l.length ≤ n → (upL l).length = (l.length + 1) / 2
  | _, [], _ => by simp [upL]
  | _, [x], _ => by simp [upL]
  | 0, x :: y :: l, h => by simp at h
  | n + 1, x :: y :: l, h => by
    simp only [upL, List.length_cons]
    rw [upL_length n l (by simp at h; omega)]; omega
theorem upL_len (l : List A32) : (upL l).length = (l.length + 1) / 2 := upL_length _ l (Nat.le_refl _)
theorem upL_two {l : List A32} {k : Nat} (h : 2 * k + 1 < l.length) : upL (l.take (2 * k + 2)) = upL (l.take (2 * k)) ++ [ndS (adAt l (2 * k)) (adAt l (2 * k + 1))] := by
  rw [show 2 * k + 2 = 2 * k + 1 + 1 by omega, take_one (adAt_some (l := l) (i := 2 * k + 1) h), take_one (adAt_some (l := l) (i := 2 * k) (by omega)), List.append_assoc, upL_even k _ _ (by rw [List.length_take]; omega)]; rfl
theorem upL_one {l : List A32} {k : Nat} (h : 2 * k < l.length) : upL (l.take (2 * k + 1)) = upL (l.take (2 * k)) ++ [adAt l (2 * k)] := by
  rw [take_one (adAt_some (l := l) (i := 2 * k) h), upL_even k _ _ (by rw [List.length_take]; omega)]; rfl
def lvL : Nat → List (List UInt8) → List A32
  | _, [] => []
  | f, b :: l => lvS f b :: lvL (f + 1) l
theorem lvL_len : ∀ (f : Nat) (l : List (List UInt8)), (lvL f l).length = l.length
  | _, [] => rfl
  | f, b :: l => by simp only [lvL, List.length_cons]; rw [lvL_len (f + 1) l]
theorem lvL_app : ∀ (f : Nat) (a b : List (List UInt8)), lvL f (a ++ b) = lvL f a ++ lvL (f + a.length) b
  | f, [], b => rfl
  | f, x :: a, b => by
    simp only [List.cons_append, lvL, List.length_cons]
    rw [lvL_app (f + 1) a b, show f + 1 + a.length = f + (a.length + 1) by omega]
def topL (l : List A32) : A32 := if 1 < l.length then topL (upL l) else adAt l 0
termination_by l.length
decreasing_by rw [upL_len]; omega
theorem topL_up {l : List A32} (h : 1 < l.length) : topL (upL l) = topL l := by
  conv => rhs; rw [topL, if_pos h]
theorem topL_one {l : List A32} (h : l.length ≤ 1) : topL l = adAt l 0 := by rw [topL, if_neg (by omega)]
def rootL (xs : List (List UInt8)) : A32 := rtS xs.length (topL (lvL 0 xs))
def trK (n : Nat) : Int := if n = 0 then 1 else if 1024 < n then 7 else 0
def rootV (xs : List (List UInt8)) : A32 := if trK xs.length = 0 then rootL xs else a32Z
theorem trK_none {n : Nat} (h : n = 0) : trK n = 1 := if_pos h
theorem trK_many {n : Nat} (h : 1024 < n) : trK n = 7 := by rw [trK, if_neg (by omega), if_pos h]
theorem trK_ok {n : Nat} (h : 0 < n) (h2 : n ≤ 1024) : trK n = 0 := by rw [trK, if_neg (by omega), if_neg (by omega)]
theorem trK_iff {n : Nat} : trK n = 0 ↔ 0 < n ∧ n ≤ 1024 := by unfold trK; split <;> (try split) <;> omega
theorem lv_snoc {L : List (Value × List UInt8)} {i : Nat} (h : i < L.length) : lvL 0 ((L.take (i + 1)).map Prod.snd) = lvL 0 ((L.take i).map Prod.snd) ++ [lvS i (L.getD i default).2] := by
  have e : L[i]? = some (L.getD i default) := by rw [List.getD_eq_getElem?_getD, List.getElem?_eq_getElem h]; rfl
  rw [take_one e, List.map_append, lvL_app, Nat.zero_add, List.length_map, List.length_take, Nat.min_eq_left (by omega)]; rfl
theorem fstL_at {L : List (Value × List UInt8)} {i : Nat} (h : i < L.length) : (L.map Prod.fst)[i]? = some (L.getD i default).1 := by
  rw [List.getElem?_map, List.getD_eq_getElem?_getD, List.getElem?_eq_getElem h]; rfl
theorem getD_inL {α : Type} [Inhabited α] {l : List α} {i : Nat} (h : i < l.length) : l.getD i default ∈ l := by
  rw [List.getD_eq_getElem?_getD, List.getElem?_eq_getElem h]; exact List.getElem_mem h
theorem Sl.ofA {w : World} {g T : Nat} {a : A32} (h : (Mo.cells g T (bys a.1)).at_ w) : Sl w (.slice (some ⟨g, 0, none⟩) 32 32) 1 a.1.length (bys a.1) := by
  rw [a.2]
  exact Sl.cells h 1 32 32 0 (bys a.1) (by rw [List.drop_zero, List.take_of_length_le (by rw [bys_length, a.2]; decide)]) (by rw [bys_length, a.2]; decide) (by decide) (by decide)
end Go.Mo
set_option linter.unusedVariables false
set_option linter.unusedSimpArgs false
namespace Go.Mo
open Go.RowKit Go.Lib
structure Pl where
  s : Int
  t : Int
  c : Int
  a : Int
def plN (p : Pl) : Int := (2 * p.s + 6 - 1) / 6
def plTx (p : Pl) : Int := 5 + plN p
def plCl (p : Pl) : Int := plTx p + p.t
def plAu (p : Pl) : Int := plCl p + p.c
def plHd (p : Pl) : Int := plAu p + p.a
def plBo (p : Pl) : Int := plHd p + 1
def plRm (p : Pl) : Int := plN p + 9 + p.t
def plSl (p : Pl) : Int := plBo p + plRm p
def plTo (p : Pl) : Int := plSl p + p.s
def plEn (p : Pl) : Int := plN p * 6
def layC (p : Pl) : List Value := [.int .i64 p.s, .int .i64 p.t, .int .i64 p.c, .int .i64 p.a, .int .i64 5, .int .i64 (plTx p), .int .i64 (plCl p), .int .i64 (plAu p), .int .i64 (plHd p), .int .i64 (plBo p), .int .i64 (plSl p), .int .i64 (plTo p), .int .i64 (plEn p), .int .i64 (plRm p)]
end Go.Mo
set_option linter.unusedVariables false
set_option linter.unusedSimpArgs false
namespace Go.Mo
open Go.RowKit Go.Lib
end Go.Mo
set_option linter.unusedVariables false
set_option linter.unusedSimpArgs false
namespace Go.Mo
open Go.RowKit Go.Lib
abbrev CS := Bool × List UInt8
def sB (s : CS) (k : Int) : CS := (!curOk s.1 s.2 k, curL s.1 s.2 k)
def sT (s : CS) (k : Int) : CS := (curTextBad s.1 s.2 k, curL s.1 s.2 k)
def sN (s : CS) (k : Int) : Nat := curNum s.1 s.2 k
def sX (s : CS) (k : Int) : ByteArray := ⟨(curText s.1 s.2 k).toArray⟩
theorem curOut_len (b : Bool) (l : List UInt8) (k : Nat) (h : k ≤ 256) : (curOut b l (k : Int)).length = k := by
  unfold curOut; split
  · rename_i h1
    simp only [curOk, Bool.and_eq_true, decide_eq_true_eq] at h1
    rw [List.length_take]; omega
  · rw [List.length_replicate]; omega
def txRun (s : CS) : Nat → List ByteArray × CS
  | 0 => ([], s)
  | n + 1 => ((txRun s n).1 ++ [sX (txRun s n).2 16], sT (txRun s n).2 16)
def nmRun (s : CS) : Nat → List Int × CS
  | 0 => ([], s)
  | n + 1 => ((nmRun s n).1 ++ [(sN (nmRun s n).2 1 : Int)], sB (nmRun s n).2 1)
def k1 (l : List UInt8) : CS := sB (false, l) 4
def k2 (l : List UInt8) : CS := sB (k1 l) 32
def k3 (l : List UInt8) : CS := sB (k2 l) 1
def k4 (l : List UInt8) : CS := sB (k3 l) 6
def k5 (l : List UInt8) : CS := sB (k4 l) 1
def k6 (l : List UInt8) : CS := sB (k5 l) 6
def k7 (l : List UInt8) : CS := sT (k6 l) 32
def k8 (l : List UInt8) : CS := sB (k7 l) 1
def nH (l : List UInt8) : Nat := min (sN (k7 l) 1) 5
def k9 (l : List UInt8) : CS := (txRun (k8 l) (nH l)).2
def k10 (l : List UInt8) : CS := sB (k9 l) 1
def nT (l : List UInt8) : Nat := min (sN (k9 l) 1) 5
def k11 (l : List UInt8) : CS := (nmRun (k10 l) (nT l)).2
def rAd (l : List UInt8) : A32 := ⟨curOut (k1 l).1 (k1 l).2 32, curOut_len _ _ 32 (by decide)⟩
def rC (l : List UInt8) : Clp := ⟨rAd l, sN (k2 l) 1, sN (k3 l) 6, decide ((sN (k4 l) 1 : Int) = 1), sN (k5 l) 6, (txRun (k8 l) (nH l)).1, sX (k6 l) 32, (nmRun (k10 l) (nT l)).1⟩
def clpZ : Clp := ⟨a32Z, 0, 0, false, 0, [], ⟨#[]⟩, []⟩
def rTag (l : List UInt8) : Bool := decide (curOut false l 4 = [67, 76, 73, 80])
def rOk (l : List UInt8) : Bool := rTag l && (!(k11 l).1 && zeroL (k11 l).2) && decide (sN (k4 l) 1 < 2)
def rV (l : List UInt8) : Clp := if rTag l = true then rC l else clpZ
def gZ (x : List UInt8) : Prop := x = List.replicate 256 0
instance (x : List UInt8) : Decidable (gZ x) := by unfold gZ; infer_instance
def gOk (x : List UInt8) (m k : Int) : Bool := decide (¬ gZ x) && holdsL x && rOk (x.take 252) && decide (clpC (rV (x.take 252)) m k = 0)
def gV (x : List UInt8) (m k : Int) : Clp := if gOk x m k = true then rV (x.take 252) else clpZ
end Go.Mo
