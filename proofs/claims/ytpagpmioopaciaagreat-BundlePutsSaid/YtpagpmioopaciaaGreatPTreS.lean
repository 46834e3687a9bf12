/- Sums of texts, and of trees: plain laws. -/
import Derived.Test.YtpagpmioopaciaaGreatPChkS
set_option linter.unusedVariables false
set_option linter.unusedSimpArgs false
namespace Go.Mo
open Go.RowKit
def txtW : List UInt8 := [116, 101, 120, 116]
def txSaid (n : Nat) (l : List A32) : List UInt8 := txtW ++ putL n 4 ++ laidA l
theorem txSaid_length (n : Nat) (l : List A32) : (txSaid n l).length = 8 + 32 * l.length := by
  simp only [txSaid, txtW, List.length_append, putL_length, laidA_length, List.length_cons, List.length_nil]
def txSum (n : Nat) (l : List A32) : A32 := ⟨sumB (txSaid n l), sumB_length _⟩
def txOf (b : List UInt8) : A32 := txSum b.length (adrsC b)
theorem laidA_getD {l : List A32} {i : Nat} (h : i < l.length) : laidA (l.take (i + 1)) = laidA (l.take i) ++ (adAt l i).1 := laidA_succ h
def leafW : List UInt8 := [108, 101, 97, 102]
def nodeW : List UInt8 := [110, 111, 100, 101]
def rootW : List UInt8 := [114, 111, 111, 116]
def lvS (i : Nat) (b : List UInt8) : A32 := ⟨sumB (leafW ++ (putL i 4 ++ b)), sumB_length _⟩
def ndS (a b : A32) : A32 := ⟨sumB (nodeW ++ (a.1 ++ b.1)), sumB_length _⟩
def rtS (n : Nat) (a : A32) : A32 := ⟨sumB (rootW ++ (putL n 4 ++ a.1)), sumB_length _⟩
def upL : List A32 → List A32
  | a :: b :: l => ndS a b :: upL l
  | l => l
theorem upL_even : ∀ (n : Nat) (a b : List A32), a.length = 2 * n → upL (a ++ b) = upL a ++ upL b
  | 0, a, b, h => by
    have : a = [] := List.length_eq_zero_iff.1 (by omega)
    subst this
    simp [upL]
  | n + 1, [], b, h => by simp at h
  | n + 1, [x], b, h => by simp at h; omega
  | n + 1, x :: y :: a, b, h => by
    simp only [List.cons_append, upL]
    rw [upL_even n a b (by simp at h; omega)]
theorem upL_length : ∀ (n : Nat) (l : List A32), l.length ≤ n → (upL l).length = (l.length + 1) / 2
  | _, [], _ => by simp [upL]
  | _, [x], _ => by simp [upL]
  | 0, x :: y :: l, h => by simp at h
  | n + 1, x :: y :: l, h => by
    simp only [upL, List.length_cons]
    rw [upL_length n l (by simp at h; omega)]; omega
theorem upL_len (l : List A32) : (upL l).length = (l.length + 1) / 2 := upL_length _ l (Nat.le_refl _)
theorem upL_two {l : List A32} {k : Nat} (h : 2 * k + 1 < l.length) : upL (l.take (2 * k + 2)) = upL (l.take (2 * k)) ++ [ndS (adAt l (2 * k)) (adAt l (2 * k + 1))] := by
  rw [show 2 * k + 2 = 2 * k + 1 + 1 by omega, take_one (adAt_some (l := l) (i := 2 * k + 1) h), take_one (adAt_some (l := l) (i := 2 * k) (by omega)), List.append_assoc, upL_even k _ _ (by rw [List.length_take]; omega)]; rfl
theorem upL_one {l : List A32} {k : Nat} (h : 2 * k < l.length) : upL (l.take (2 * k + 1)) = upL (l.take (2 * k)) ++ [adAt l (2 * k)] := by
  rw [take_one (adAt_some (l := l) (i := 2 * k) h), upL_even k _ _ (by rw [List.length_take]; omega)]; rfl
def lvL : Nat → List (List UInt8) → List A32
  | _, [] => []
  | f, b :: l => lvS f b :: lvL (f + 1) l
theorem lvL_len : ∀ (f : Nat) (l : List (List UInt8)), (lvL f l).length = l.length
  | _, [] => rfl
  | f, b :: l => by simp only [lvL, List.length_cons]; rw [lvL_len (f + 1) l]
theorem lvL_app : ∀ (f : Nat) (a b : List (List UInt8)), lvL f (a ++ b) = lvL f a ++ lvL (f + a.length) b
  | f, [], b => rfl
  | f, x :: a, b => by
    simp only [List.cons_append, lvL, List.length_cons]
    rw [lvL_app (f + 1) a b, show f + 1 + a.length = f + (a.length + 1) by omega]
def topL (l : List A32) : A32 := if 1 < l.length then topL (upL l) else adAt l 0
termination_by l.length
decreasing_by rw [upL_len]; omega
theorem topL_up {l : List A32} (h : 1 < l.length) : topL (upL l) = topL l := by
  conv => rhs; rw [topL, if_pos h]
theorem topL_one {l : List A32} (h : l.length ≤ 1) : topL l = adAt l 0 := by rw [topL, if_neg (by omega)]
theorem topL_upN {l : List A32} (h : 1 ≤ l.length) : topL (upL l) = topL l := by
  by_cases h1 : 1 < l.length
  · exact topL_up h1
  · match l, h with
    | [x], _ => rfl
    | _ :: _ :: _, _ => simp at h1
/-- The greatest power of two below n. -/
theorem topL_split : ∀ (n : Nat) (l : List A32) (j : Nat), l.length ≤ n → 2 ^ j < l.length → l.length ≤ 2 * 2 ^ j → topL l = ndS (topL (l.take (2 ^ j))) (topL (l.drop (2 ^ j)))
  | 0, l, j, h, h1, _ => by omega
  | n + 1, l, 0, h, h1, h2 => by
    match l, h1, h2 with
    | [a, b], _, _ =>
      rw [← topL_up (by simp), show upL [a, b] = [ndS a b] from rfl, topL_one (by simp)]
      show ndS a b = ndS (topL [a]) (topL [b])
      rw [topL_one (by simp), topL_one (by simp)]; rfl
    | _ :: _ :: _ :: _, _, h2 => simp at h2
  | n + 1, l, j + 1, h, h1, h2 => by
    have hp : 2 ^ (j + 1) = 2 * 2 ^ j := by rw [Nat.pow_succ]; omega
    have hpp : 0 < 2 ^ j := Nat.pow_pos (by decide)
    rw [hp] at h1 h2 ⊢
    have hsp : upL l = upL (l.take (2 * 2 ^ j)) ++ upL (l.drop (2 * 2 ^ j)) := by
      conv => lhs; rw [← List.take_append_drop (2 * 2 ^ j) l]
      exact upL_even (2 ^ j) _ _ (by rw [List.length_take]; omega)
    have hl1 : (upL (l.take (2 * 2 ^ j))).length = 2 ^ j := by rw [upL_len, List.length_take]; omega
    have hul : (upL l).length = (l.length + 1) / 2 := upL_len l
    rw [← topL_up (l := l) (by omega), topL_split n (upL l) j (by omega) (by omega) (by omega), hsp, List.take_append_of_le_length (by rw [hl1]; exact Nat.le_refl _), List.take_of_length_le (by rw [hl1]; exact Nat.le_refl _), List.drop_append_of_le_length (by rw [hl1]; exact Nat.le_refl _), List.drop_of_length_le (by rw [hl1]; exact Nat.le_refl _), List.nil_append,
      topL_upN (l := l.take (2 * 2 ^ j)) (by rw [List.length_take]; omega), topL_upN (l := l.drop (2 * 2 ^ j)) (by rw [List.length_drop]; omega)]
def rootL (xs : List (List UInt8)) : A32 := rtS xs.length (topL (lvL 0 xs))
def trK (n : Nat) : Int := if n = 0 then 1 else if 1024 < n then 7 else 0
def rootV (xs : List (List UInt8)) : A32 := if trK xs.length = 0 then rootL xs else a32Z
theorem trK_none {n : Nat} (h : n = 0) : trK n = 1 := if_pos h
theorem trK_many {n : Nat} (h : 1024 < n) : trK n = 7 := by rw [trK, if_neg (by omega), if_pos h]
theorem trK_ok {n : Nat} (h : 0 < n) (h2 : n ≤ 1024) : trK n = 0 := by rw [trK, if_neg (by omega), if_neg (by omega)]
theorem trK_iff {n : Nat} : trK n = 0 ↔ 0 < n ∧ n ≤ 1024 := by unfold trK; split <;> (try split) <;> omega
theorem lv_snoc {L : List (Value × List UInt8)} {i : Nat} (h : i < L.length) : lvL 0 ((L.take (i + 1)).map Prod.snd) = lvL 0 ((L.take i).map Prod.snd) ++ [lvS i (L.getD i default).2] := by
  have e : L[i]? = some (L.getD i default) := by rw [List.getD_eq_getElem?_getD, List.getElem?_eq_getElem h]; rfl
  rw [take_one e, List.map_append, lvL_app, Nat.zero_add, List.length_map, List.length_take, Nat.min_eq_left (by omega)]; rfl
theorem fstL_at {L : List (Value × List UInt8)} {i : Nat} (h : i < L.length) : (L.map Prod.fst)[i]? = some (L.getD i default).1 := by
  rw [List.getElem?_map, List.getD_eq_getElem?_getD, List.getElem?_eq_getElem h]; rfl
theorem getD_inL {α : Type} [Inhabited α] {l : List α} {i : Nat} (h : i < l.length) : l.getD i default ∈ l := by
  rw [List.getD_eq_getElem?_getD, List.getElem?_eq_getElem h]; exact List.getElem_mem h
theorem Sl.ofA {w : World} {g T : Nat} {a : A32} (h : (Mo.cells g T (bys a.1)).at_ w) : Sl w (.slice (some ⟨g, 0, none⟩) 32 32) 1 a.1.length (bys a.1) := by
  rw [a.2]
  exact Sl.cells h 1 32 32 0 (bys a.1) (by rw [List.drop_zero, List.take_of_length_le (by rw [bys_length, a.2]; decide)]) (by rw [bys_length, a.2]; decide) (by decide) (by decide)
end Go.Mo
