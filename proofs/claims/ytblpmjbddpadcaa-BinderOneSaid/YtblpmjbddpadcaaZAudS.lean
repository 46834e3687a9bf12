/- Records of what was done: their bytes, their sums, chains of them: plain laws. -/
import Derived.Test.YtblpmjbddpadcaaZLeafS
import Derived.Test.YtblpmjbddpadcaaZDigS
import Derived.Test.YtblpmjbddpadcaaZStr
set_option linter.unusedVariables false
set_option linter.unusedSimpArgs false
namespace Go.Mo
open Go.RowKit Go.Lib
abbrev A32 := { x : List UInt8 // x.length = 32 }
def a32Z : A32 := ⟨List.replicate 32 0, List.length_replicate⟩
theorem a32_len (x : A32) : x.1.length = 32 := x.2
theorem a32_ext {a b : A32} (h : a.1 = b.1) : a = b := Subtype.ext h
structure Rec where
  kind : Int
  time : Int
  actor : ByteArray
  clip : A32
  reason : ByteArray
  prev : A32
  sum : A32
def recF (r : Rec) : List FV := [.i .i64 r.kind, .i .i64 r.time, .s r.actor, .a r.clip.1, .s r.reason, .a r.prev.1, .a r.sum.1]
theorem splice_mid {α : Type} (A B C V : List α) (k : Nat) (hk : A.length = k) (hv : V.length = B.length) : splice (A ++ (B ++ C)) k V = A ++ (V ++ C) := by
  subst hk
  apply List.ext_getElem?
  intro j
  rw [splice_get _ _ _ (by simp [hv])]
  by_cases h1 : j < A.length
  · rw [if_pos h1, List.getElem?_append_left h1, List.getElem?_append_left h1]
  · have eL : (A ++ (B ++ C))[j]? = (B ++ C)[j - A.length]? := List.getElem?_append_right (by omega)
    have eR : (A ++ (V ++ C))[j]? = (V ++ C)[j - A.length]? := List.getElem?_append_right (by omega)
    rw [if_neg h1, eL, eR]
    by_cases h2 : j < A.length + V.length
    · rw [if_pos h2, List.getElem?_append_left (by omega)]
    · rw [if_neg h2, List.getElem?_append_right (show B.length ≤ j - A.length by omega), List.getElem?_append_right (show V.length ≤ j - A.length by omega), hv]
theorem List.take_succ_eq_append_getD {l : List UInt8} {i : Nat} (h : i < l.length) : l.take i ++ [l.getD i 0] = l.take (i + 1) := by
  rw [List.take_succ_eq_append_getElem h, List.getD_eq_getElem?_getD, List.getElem?_eq_getElem h]; rfl
def recZ : Rec := ⟨0, 0, ⟨#[]⟩, a32Z, ⟨#[]⟩, a32Z, a32Z⟩
instance : Inhabited Rec := ⟨recZ⟩
def recEq (a b : Rec) : Bool := fvsEq (recF a) (recF b)
theorem recEq_iff {a b : Rec} : recEq a b = true ↔ a = b := by
  constructor
  · intro h
    simp only [recEq, recF, fvsEq, fvEq, Bool.and_eq_true, decide_eq_true_eq] at h
    obtain ⟨h1, h2, h3, h4, h5, h6, h7, _⟩ := h
    cases a; cases b
    simp only at h1 h2 h3 h4 h5 h6 h7
    rw [h1, h2, h3, a32_ext h4, h5, a32_ext h6, a32_ext h7]
  · rintro rfl
    simp [recEq, recF, fvsEq, fvEq]
instance : DecidableEq Rec := fun a b => if h : recEq a b = true then isTrue (recEq_iff.1 h) else isFalse fun e => h (recEq_iff.2 e)
def kB (k : Int) : UInt8 := UInt8.ofNat (k % 256).toNat
theorem kB_wrap (k : Int) : IntKind.u8.wrap k = ((kB k).toNat : Int) := by
  have h : IntKind.u8.wrap k = IntKind.u8.wrap ((k % 256).toNat : Int) := by
    have e : IntKind.u8.signed = false := rfl
    have e2 : (2 ^ IntKind.u8.bits : Int) = 256 := rfl
    simp only [IntKind.wrap, e, e2, Bool.false_and, Bool.false_eq_true, if_false]
    omega
  rw [h, kB, u8_wrap]
theorem pad_le (s : List UInt8) (k : Int) : (padL s k).length ≤ k.toNat := by
  cases h : padOk s.length k
  · simp [padL, h]
  · rw [padL_length s _ h]; omega
theorem reason_pad {s : ByteArray} (h : s.size ≤ 31) : padOk s.data.toList.length 32 = true := by
  have e : s.data.toList.length = s.size := rfl
  rw [e]
  simp only [padOk, decide_eq_true_eq]
  omega
def cut32 (l : List UInt8) (k : Nat) : List UInt8 := (l.drop k).take 32 ++ List.replicate (32 - ((l.drop k).take 32).length) 0
theorem cut32_length (l : List UInt8) (k : Nat) : (cut32 l k).length = 32 := by simp [cut32]; omega
theorem cut32_eq {l : List UInt8} {k : Nat} (h : k + 32 ≤ l.length) : cut32 l k = (l.drop k).take 32 := by
  have : ((l.drop k).take 32).length = 32 := by rw [List.length_take, List.length_drop]; omega
  rw [cut32, this]; simp
theorem pad_unpadN {b : List UInt8} {k : Nat} (h : unpadOk b = true) (hl : b.length = k) (hk : k ≤ 256) : padL (unpadL b) (k : Int) = b := by
  cases b with
  | nil => cases h
  | cons c r =>
    have h2 := h
    simp only [unpadOk, Bool.and_eq_true, decide_eq_true_eq] at h2
    obtain ⟨h3, h4⟩ := h2
    simp only [List.length_cons] at hl
    have e1 : unpadL (c :: r) = r.take c.toNat := by simp only [unpadL, h, if_true]
    have e2 : (r.take c.toNat).length = c.toNat := by rw [List.length_take]; omega
    have e3 : padOk (r.take c.toNat).length (k : Int) = true := by simp only [padOk, e2, decide_eq_true_eq]; omega
    rw [e1, padL_yes e3, e2, Int.toNat_natCast]
    congr 1
    · exact UInt8.toNat_inj.1 (by simp)
    · have e4 : r.drop c.toNat = List.replicate (k - 1 - c.toNat) 0 := by
        have e5 : (r.drop c.toNat).length = k - 1 - c.toNat := by rw [List.length_drop]; omega
        rw [← e5]
        apply List.eq_replicate_of_mem
        intro x hx
        simp only [zeroL, List.all_eq_true] at h4
        simpa using h4 x hx
      rw [← e4, List.take_append_drop]
theorem u8_get (c : UInt8) : getL [c] = c.toNat := by simp [getL]
theorem get_one {l : List UInt8} {k : Nat} (h : k < l.length) : [kB (getL ((l.drop k).take 1) : Int)] = (l.drop k).take 1 := by
  rw [List.drop_eq_getElem_cons h, List.take_succ_cons, List.take_zero, u8_get, kB]
  congr 1
  have := (l[k]).toNat_lt
  rw [show (((l[k]).toNat : Int) % 256).toNat = (l[k]).toNat by omega]
  exact UInt8.toNat_inj.1 (by simp)
theorem zeroL_iff {l : List UInt8} : zeroL l = true ↔ l = List.replicate l.length 0 := by
  constructor
  · intro h
    apply List.eq_replicate_of_mem
    intro x hx
    simp only [zeroL, List.all_eq_true] at h
    simpa using h x hx
  · intro h; rw [h]; exact zeroL_replicate _
theorem row_n {w : World} {T n : Nat} {v : Value} {l : List UInt8} (h : (Res.row T 1 v n (bys l)).at_ w) : n = l.length := by
  have := row_len h
  rw [bys_length] at this
  omega
end Go.Mo
