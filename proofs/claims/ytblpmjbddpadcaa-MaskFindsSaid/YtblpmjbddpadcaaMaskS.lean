/- Masks of disks: plans, parts, sectors without what is masked: plain laws. -/
import Derived.Test.YtblpmjbddpadcaaCloS
set_option linter.unusedVariables false
set_option linter.unusedSimpArgs false
namespace Go.Mo
open Go.RowKit Go.Lib
/-! ### Sectors -/
def Sec := { x : List UInt8 // x.length = 256 }
instance : DecidableEq Sec := inferInstanceAs (DecidableEq { x : List UInt8 // x.length = 256 })
def secZ : Sec := ⟨List.replicate 256 0, List.length_replicate⟩
instance : Inhabited Sec := ⟨secZ⟩
def seC (s : Sec) : List Value := bys s.1
theorem seC_len (s : Sec) : (seC s).length = 256 := by rw [seC, bys_length]; exact s.2
theorem seC_one (s : Sec) : ∀ u ∈ seC s, u.oneCell' = true := bys_one _
theorem seC_lt {s : Sec} {j : Nat} {u : Value} (h : (seC s)[j]? = some u) : j < 256 := by rw [← seC_len s]; exact (List.getElem?_eq_some_iff.1 h).1
def seAt (l : List Sec) (i : Nat) : Sec := l.getD i default
theorem seAt_some {l : List Sec} {i : Nat} (hi : i < l.length) : l[i]? = some (seAt l i) := by rw [seAt, List.getD_eq_getElem?_getD, List.getElem?_eq_getElem hi]; rfl
theorem se_cell {l : List Sec} {i j : Nat} (hi : i < l.length) (hj : j < 256) : (l.flatMap seC)[i * 256 + j]? = some (.int .u8 (((seAt l i).1.getD j 0).toNat : Int)) :=
  (flat_get seC_len l i j (seAt l i) hj (seAt_some hi)).trans (bys_getD _ _ (by rw [(seAt l i).2]; exact hj))
theorem sec_ext {a b : Sec} (h : a.1 = b.1) : a = b := Subtype.ext h
theorem sec_eq {a b : Sec} : decide (a.1 = b.1) = decide (a = b) := by
  rw [decide_eq_decide]; exact ⟨sec_ext, fun h => h ▸ rfl⟩
/-! ### Plans -/
structure Pl where
  s : Int
  t : Int
  c : Int
  a : Int
def plC (p : Pl) : List Value := [.int .i64 p.s, .int .i64 p.t, .int .i64 p.c, .int .i64 p.a]
def planB (p : Pl) : Bool := decide (1 ≤ p.s ∧ p.s ≤ 200) && (decide (1 ≤ p.t ∧ p.t ≤ 40) && (decide (1 ≤ p.c ∧ p.c ≤ 40) && decide (1 ≤ p.a ∧ p.a ≤ 80)))
def planC (p : Pl) : Int := if planB p then 0 else 2
theorem planB_iff {p : Pl} : planB p = true ↔ ((1 ≤ p.s ∧ p.s ≤ 200) ∧ (1 ≤ p.t ∧ p.t ≤ 40) ∧ (1 ≤ p.c ∧ p.c ≤ 40) ∧ 1 ≤ p.a ∧ p.a ≤ 80) := by simp [planB]
theorem planB_no {p : Pl} (h : ¬ ((1 ≤ p.s ∧ p.s ≤ 200) ∧ (1 ≤ p.t ∧ p.t ≤ 40) ∧ (1 ≤ p.c ∧ p.c ≤ 40) ∧ 1 ≤ p.a ∧ p.a ≤ 80)) : planB p = false := by
  cases hb : planB p
  · rfl
  · exact absurd (planB_iff.1 hb) h
theorem planC_no {p : Pl} (h : ¬ ((1 ≤ p.s ∧ p.s ≤ 200) ∧ (1 ≤ p.t ∧ p.t ≤ 40) ∧ (1 ≤ p.c ∧ p.c ≤ 40) ∧ 1 ≤ p.a ∧ p.a ≤ 80)) : planC p = 2 := by rw [planC, planB_no h]; rfl
theorem planC_yes {p : Pl} (h : (1 ≤ p.s ∧ p.s ≤ 200) ∧ (1 ≤ p.t ∧ p.t ≤ 40) ∧ (1 ≤ p.c ∧ p.c ≤ 40) ∧ 1 ≤ p.a ∧ p.a ≤ 80) : planC p = 0 := by rw [planC, planB_iff.2 h]; rfl
theorem planC_iff {p : Pl} : planC p = 0 ↔ planB p = true := by unfold planC; cases planB p <;> simp
def plN (p : Pl) : Int := (2 * p.s + 6 - 1) / 6
def plTx (p : Pl) : Int := 5 + plN p
def plCl (p : Pl) : Int := plTx p + p.t
def plAu (p : Pl) : Int := plCl p + p.c
def plHd (p : Pl) : Int := plAu p + p.a
def plBo (p : Pl) : Int := plHd p + 1
def plRm (p : Pl) : Int := plN p + 9 + p.t
def plSl (p : Pl) : Int := plBo p + plRm p
def plTo (p : Pl) : Int := plSl p + p.s
def plEn (p : Pl) : Int := plN p * 6
def layC (p : Pl) : List Value := [.int .i64 p.s, .int .i64 p.t, .int .i64 p.c, .int .i64 p.a, .int .i64 5, .int .i64 (plTx p), .int .i64 (plCl p), .int .i64 (plAu p), .int .i64 (plHd p), .int .i64 (plBo p), .int .i64 (plSl p), .int .i64 (plTo p), .int .i64 (plEn p), .int .i64 (plRm p)]
def layZ : List Value := List.replicate 14 (.int .i64 0)
def layV (p : Pl) : List Value := if planC p = 0 then layC p else layZ
theorem layV_yes {p : Pl} (h : planC p = 0) : layV p = layC p := by rw [layV, if_pos h]
theorem layV_no {p : Pl} (h : planC p = 2) : layV p = layZ := by rw [layV, if_neg (by rw [h]; decide)]
theorem pl_bounds {p : Pl} (h : planB p = true) : 1 ≤ plN p ∧ plN p ≤ 67 ∧ 2 * p.s ≤ 6 * plN p ∧ 6 * plN p < 2 * p.s + 6 := by
  have := planB_iff.1 h
  unfold plN
  omega
abbrev bsE : ByteArray := ⟨#[]⟩
abbrev bsSlot : ByteArray := ⟨#[115, 108, 111, 116]⟩
abbrev bsBody : ByteArray := ⟨#[98, 111, 100, 121]⟩
abbrev bsHead : ByteArray := ⟨#[104, 101, 97, 100]⟩
abbrev bsAudit : ByteArray := ⟨#[97, 117, 100, 105, 116]⟩
abbrev bsClip : ByteArray := ⟨#[99, 108, 105, 112]⟩
abbrev bsText : ByteArray := ⟨#[116, 101, 120, 116]⟩
abbrev bsIndex : ByteArray := ⟨#[105, 110, 100, 101, 120]⟩
abbrev bsClasses : ByteArray := ⟨#[99, 108, 97, 115, 115, 101, 115]⟩
abbrev bsMap : ByteArray := ⟨#[109, 97, 112]⟩
abbrev bsState : ByteArray := ⟨#[115, 116, 97, 116, 101]⟩
abbrev bsSuper : ByteArray := ⟨#[115, 117, 112, 101, 114]⟩
def partS (p : Pl) (at_ : Int) : ByteArray :=
  if at_ < 0 ∨ plTo p ≤ at_ then bsE else if plSl p ≤ at_ then bsSlot else if plBo p ≤ at_ then bsBody else if at_ = plHd p then bsHead else if plAu p ≤ at_ then bsAudit else if plCl p ≤ at_ then bsClip
  else if plTx p ≤ at_ then bsText else if 5 ≤ at_ then bsIndex else if at_ = 4 then bsClasses else if at_ = 3 then bsMap else if at_ = 2 then bsState else bsSuper
def partsL (p : Pl) : List ByteArray :=
  [bsSuper, bsSuper, bsState, bsMap, bsClasses] ++ List.replicate (plN p).toNat bsIndex ++ List.replicate p.t.toNat bsText ++ List.replicate p.c.toNat bsClip ++ List.replicate p.a.toNat bsAudit ++ [bsHead] ++ List.replicate (plRm p).toNat bsBody ++ List.replicate p.s.toNat bsSlot
theorem partsL_length {p : Pl} (h : planB p = true) : ((partsL p).length : Int) = plTo p := by
  have h1 := planB_iff.1 h
  have h2 := pl_bounds h
  simp only [partsL, List.length_append, List.length_replicate, List.length_cons, List.length_nil, plTo, plSl, plBo, plHd, plAu, plCl, plTx, plRm]
  omega
theorem parts_at {p : Pl} (h : planB p = true) {i : Nat} (hi : i < (partsL p).length) : (partsL p)[i]? = some (partS p i) := by
  have h1 := planB_iff.1 h
  have h2 := pl_bounds h
  have h3 := partsL_length h
  have e : plTo p = plSl p + p.s := rfl
  have e1 : plSl p = plBo p + plRm p := rfl
  have e2 : plBo p = plHd p + 1 := rfl
  have e3 : plHd p = plAu p + p.a := rfl
  have e4 : plAu p = plCl p + p.c := rfl
  have e5 : plCl p = plTx p + p.t := rfl
  have e6 : plTx p = 5 + plN p := rfl
  have e7 : plRm p = plN p + 9 + p.t := rfl
  rw [partS, if_neg (by omega)]
  simp only [partsL, List.getElem?_append, List.length_append, List.length_replicate, List.length_cons, List.length_nil, List.getElem?_replicate]
  generalize plN p = N at *
  generalize plRm p = R at *
  generalize plSl p = A0 at *
  generalize plBo p = A1 at *
  generalize plHd p = A2 at *
  generalize plAu p = A3 at *
  generalize plCl p = A4 at *
  generalize plTx p = A5 at *
  by_cases c0 : A0 ≤ i
  · rw [if_pos c0]
    rw [if_neg (by omega), if_pos (by omega)]
  rw [if_neg c0, if_pos (by omega)]
  by_cases c1 : A1 ≤ i
  · rw [if_pos c1]
    rw [if_neg (by omega), if_pos (by omega)]
  rw [if_neg c1, if_pos (by omega)]
  by_cases c2 : (i : Int) = A2
  · rw [if_pos c2]
    rw [if_neg (by omega)]
    have : i - (0 + 1 + 1 + 1 + 1 + 1 + N.toNat + p.t.toNat + p.c.toNat + p.a.toNat) = 0 := by omega
    rw [this]; rfl
  rw [if_neg c2, if_pos (by omega)]
  by_cases c3 : A3 ≤ i
  · rw [if_pos c3]
    rw [if_neg (by omega), if_pos (by omega)]
  rw [if_neg c3, if_pos (by omega)]
  by_cases c4 : A4 ≤ i
  · rw [if_pos c4]
    rw [if_neg (by omega), if_pos (by omega)]
  rw [if_neg c4, if_pos (by omega)]
  by_cases c5 : A5 ≤ i
  · rw [if_pos c5]
    rw [if_neg (by omega), if_pos (by omega)]
  rw [if_neg c5, if_pos (by omega)]
  by_cases c6 : (5 : Int) ≤ i
  · rw [if_pos c6]
    rw [if_neg (by omega), if_pos (by omega)]
  rw [if_neg c6, if_pos (by omega)]
  have : i = 0 ∨ i = 1 ∨ i = 2 ∨ i = 3 ∨ i = 4 := by omega
  rcases this with rfl | rfl | rfl | rfl | rfl <;> rfl
theorem parts_out {p : Pl} (h : planB p = true) {i : Nat} (hi : (partsL p).length ≤ i) : partS p i = bsE := by
  have h3 := partsL_length h
  rw [partS, if_pos (by omega)]
/-! ### What is masked -/
def maskB (i : Nat) : Bool := decide (59 ≤ i ∧ i < 155 ∨ 252 ≤ i)
def hidK (k : Nat) (x : List UInt8) : List UInt8 := x.mapIdx fun j v => if j < k ∧ maskB j = true then 0 else v
theorem hidK_length (k : Nat) (x : List UInt8) : (hidK k x).length = x.length := by simp [hidK]
theorem hidK_get (k : Nat) (x : List UInt8) (j : Nat) : (hidK k x)[j]? = x[j]?.map fun v => if j < k ∧ maskB j = true then 0 else v := by simp [hidK, List.getElem?_mapIdx]
theorem hidK_zero (x : List UInt8) : hidK 0 x = x := by
  apply List.ext_getElem?
  intro j
  rw [hidK_get]
  cases x[j]? <;> simp
theorem hidK_yes {k : Nat} {x : List UInt8} (hk : k < x.length) (h : maskB k = true) : splice (bys (hidK k x)) (0 + k * 1) [.int .u8 0] = bys (hidK (k + 1) x) := by
  rw [Nat.zero_add, Nat.mul_one]
  have e1 : splice (bys (hidK k x)) k [.int .u8 0] = bys (splice (hidK k x) k [0]) := by simp [splice, bys, List.map_take, List.map_drop]
  rw [e1]
  congr 1
  apply List.ext_getElem?
  intro j
  rw [splice_get _ _ _ (by simp [hidK_length]; omega), hidK_get, hidK_get]
  by_cases h1 : j < k
  · rw [if_pos h1]; congr 1; funext v; simp [h1, show j < k + 1 by omega]
  · rw [if_neg h1]
    by_cases h2 : j = k
    · subst h2
      rw [if_pos (by simp), Nat.sub_self, List.getElem?_eq_getElem hk]
      simp [h]
    · rw [if_neg (by simp; omega)]; congr 1; funext v; simp [h1, show ¬ j < k + 1 by omega]
theorem hidK_no {k : Nat} {x : List UInt8} (h : maskB k = false) : hidK k x = hidK (k + 1) x := by
  apply List.ext_getElem?
  intro j
  rw [hidK_get, hidK_get]
  congr 1; funext v
  by_cases h2 : j = k
  · subst h2; simp [h]
  · simp only [show (j < k + 1) ↔ (j < k) from ⟨fun _ => by omega, fun _ => by omega⟩]
def hidS (s : Sec) : Sec := ⟨hidK 256 s.1, by rw [hidK_length]; exact s.2⟩
def hid1 (x : List UInt8) : List UInt8 := x.mapIdx fun j v => if 59 ≤ j ∧ j < 155 then 0 else v
theorem hid1_length (x : List UInt8) : (hid1 x).length = x.length := by simp [hid1]
theorem hid_first {x : List UInt8} (hx : x.length = 256) : splice (bys x) (0 + 59 * 1) (List.replicate 96 (.int .u8 0)) = bys (hid1 x) := by
  have e1 : splice (bys x) 59 (List.replicate 96 (.int .u8 0)) = bys (splice x 59 (List.replicate 96 0)) := by simp [splice, bys, List.map_take, List.map_drop]
  rw [show 0 + 59 * 1 = 59 from rfl, e1]
  congr 1
  apply List.ext_getElem?
  intro j
  rw [splice_get _ _ _ (by simp [hx]), hid1, List.getElem?_mapIdx, List.length_replicate, List.getElem?_replicate]
  by_cases h1 : j < 59
  · rw [if_pos h1]; cases x[j]? <;> simp; omega
  · rw [if_neg h1]
    by_cases h2 : j < 59 + 96
    · rw [if_pos h2, if_pos (by omega), List.getElem?_eq_getElem (by omega)]; simp; omega
    · rw [if_neg h2]; cases x[j]? <;> simp; omega
theorem hid_second {x : List UInt8} (hx : x.length = 256) : splice (bys (hid1 x)) (0 + 252 * 1) (List.replicate 4 (.int .u8 0)) = bys (hidK 256 x) := by
  have e1 : splice (bys (hid1 x)) 252 (List.replicate 4 (.int .u8 0)) = bys (splice (hid1 x) 252 (List.replicate 4 0)) := by simp [splice, bys, List.map_take, List.map_drop]
  rw [show 0 + 252 * 1 = 252 from rfl, e1]
  congr 1
  apply List.ext_getElem?
  intro j
  rw [splice_get _ _ _ (by simp [hid1_length, hx]), hidK_get, hid1, List.getElem?_mapIdx, List.length_replicate, List.getElem?_replicate]
  have hm : maskB j = decide (59 ≤ j ∧ j < 155 ∨ 252 ≤ j) := rfl
  rw [hm]
  by_cases h1 : j < 252
  · rw [if_pos h1]
    cases x[j]? with
    | none => rfl
    | some v =>
      simp only [Option.map_some, decide_eq_true_eq]
      congr 1
      by_cases h3 : 59 ≤ j ∧ j < 155
      · rw [if_pos h3, if_pos (by omega)]
      · rw [if_neg h3, if_neg (by omega)]
  · rw [if_neg h1]
    by_cases h2 : j < 252 + 4
    · rw [if_pos h2, if_pos (by omega), List.getElem?_eq_getElem (by omega)]
      simp only [Option.map_some, decide_eq_true_eq]
      rw [if_pos (by omega)]
    · rw [if_neg h2, List.getElem?_eq_none (by omega)]; rfl
def mskA (p : Pl) (i : Nat) (s : Sec) : Sec := if partS p i = bsAudit then hidS s else s
def imask (p : Pl) (l : List Sec) : List Sec := l.mapIdx (mskA p)
theorem imask_length (p : Pl) (l : List Sec) : (imask p l).length = l.length := by simp [imask]
theorem imask_take {p : Pl} {l : List Sec} {i : Nat} (h : i < l.length) : imask p (l.take (i + 1)) = imask p (l.take i) ++ [mskA p i (seAt l i)] := by
  rw [take_one (seAt_some h), imask, List.mapIdx_concat, List.length_take, Nat.min_eq_left (by omega)]; rfl
def unB (x y : List Sec) (i : Nat) : Bool := decide (x.length ≤ i) || (decide (y.length ≤ i) || decide (¬ seAt x i = seAt y i))
def unl (x y : List Sec) (k : Nat) : List Int := ((List.range k).filter (unB x y)).map Int.ofNat
theorem unl_yes {x y : List Sec} {k : Nat} (h : unB x y k = true) : unl x y (k + 1) = unl x y k ++ [(k : Int)] := by simp [unl, List.range_succ, List.filter_append, h]
theorem unl_no {x y : List Sec} {k : Nat} (h : unB x y k = false) : unl x y (k + 1) = unl x y k := by simp [unl, List.range_succ, List.filter_append, h]
theorem unl_le (x y : List Sec) (k : Nat) : (unl x y k).length ≤ k := by
  rw [unl, List.length_map]; exact Nat.le_trans (List.length_filter_le _ _) (by simp)
theorem unB_1 {x y : List Sec} {i : Nat} (h : x.length ≤ i) : unB x y i = true := by rw [unB, decide_eq_true h]; rfl
theorem unB_2 {x y : List Sec} {i : Nat} (h : y.length ≤ i) : unB x y i = true := by rw [unB, decide_eq_true h]; cases decide (x.length ≤ i) <;> rfl
theorem unB_3 {x y : List Sec} {i : Nat} (h : ¬ (seAt x i).1 = (seAt y i).1) : unB x y i = true := by rw [unB, decide_eq_true (show ¬ seAt x i = seAt y i from fun e => h (congrArg Subtype.val e))]; cases decide (x.length ≤ i) <;> cases decide (y.length ≤ i) <;> rfl
theorem unB_no {x y : List Sec} {i : Nat} (h1 : i < x.length) (h2 : i < y.length) (h : (seAt x i).1 = (seAt y i).1) : unB x y i = false := by
  rw [unB, decide_eq_false (show ¬ x.length ≤ i by omega), decide_eq_false (show ¬ y.length ≤ i by omega), decide_eq_false (fun e => e (sec_ext h))]; rfl
def difO (a b : List Sec) (i : Nat) : Bool := decide (a.length ≤ i) || decide (b.length ≤ i)
theorem difO_1 {a b : List Sec} {i : Nat} (h : a.length ≤ i) : difO a b i = true := by rw [difO, decide_eq_true h]; rfl
theorem difO_2 {a b : List Sec} {i : Nat} (h : b.length ≤ i) : difO a b i = true := by rw [difO, decide_eq_true h]; cases decide (a.length ≤ i) <;> rfl
theorem difO_no {a b : List Sec} {i : Nat} (h1 : i < a.length) (h2 : i < b.length) : difO a b i = false := by rw [difO, decide_eq_false (show ¬ a.length ≤ i by omega), decide_eq_false (show ¬ b.length ≤ i by omega)]; rfl
def dfB (a b : List Sec) (i j : Nat) : Bool := difO a b i || decide (¬ (seAt a i).1.getD j 0 = (seAt b i).1.getD j 0)
theorem dfB_1 {a b : List Sec} {i j : Nat} (h : difO a b i = true) : dfB a b i j = true := by rw [dfB, h]; rfl
theorem dfB_2 {a b : List Sec} {i j : Nat} (h : ¬ (((seAt a i).1.getD j 0).toNat : Int) = (((seAt b i).1.getD j 0).toNat : Int)) : dfB a b i j = true := by
  rw [dfB, decide_eq_true (show ¬ (seAt a i).1.getD j 0 = (seAt b i).1.getD j 0 from fun e => h (by rw [e]))]; cases difO a b i <;> rfl
def dfJ (a b : List Sec) (i : Nat) : Nat → Nat
  | 0 => 0
  | j + 1 => dfJ a b i j + if dfB a b i j = true then 1 else 0
theorem dfJ_yes {a b : List Sec} {i j : Nat} (h : dfB a b i j = true) : dfJ a b i (j + 1) = dfJ a b i j + 1 := by rw [dfJ, if_pos h]
theorem dfJ_no {a b : List Sec} {i j : Nat} (ho : difO a b i = false) (h : (((seAt a i).1.getD j 0).toNat : Int) = (((seAt b i).1.getD j 0).toNat : Int)) : dfJ a b i (j + 1) = dfJ a b i j := by
  have e : (seAt a i).1.getD j 0 = (seAt b i).1.getD j 0 := UInt8.toNat_inj.1 (by omega)
  rw [dfJ, if_neg (by rw [dfB, ho, e]; simp)]; rfl
theorem dfJ_le (a b : List Sec) (i : Nat) : ∀ j, dfJ a b i j ≤ j
  | 0 => Nat.le_refl _
  | j + 1 => by have := dfJ_le a b i j; rw [dfJ]; split <;> omega
theorem dfJ_all {a b : List Sec} {i : Nat} (h : difO a b i = true) : ∀ {j}, dfJ a b i j = j
  | 0 => rfl
  | j + 1 => by rw [dfJ_yes (dfB_1 h), dfJ_all h]
def difN (a b : List Sec) : Nat → Nat
  | 0 => 0
  | i + 1 => difN a b i + dfJ a b i 256
theorem difN_le (a b : List Sec) : ∀ i, difN a b i ≤ 256 * i
  | 0 => Nat.le_refl _
  | i + 1 => by have := difN_le a b i; have := dfJ_le a b i 256; rw [difN]; omega
theorem se_byte {w : World} {g b m m' c i j : Nat} {l : List Sec} (h : Sl w (.slice (some ⟨g, b, none⟩) m c) 256 m' (l.flatMap seC)) (hi : i < l.length) (hj : j < 256) : w.cell? ⟨g, b + i * 256 + j * 1, none⟩ = some (.int .u8 (((seAt l i).1.getD j 0).toNat : Int)) := by
  rw [Nat.mul_one]
  exact h.elem seC_len i j hj (seAt_some hi) (bys_getD _ _ (by rw [(seAt l i).2]; exact hj))
def standB (x b : List UInt8) (i : Nat) : Bool := decide ((x.drop i).take b.length = b)
def holdS (b : List UInt8) (s : Sec) : Bool := (List.range (257 - b.length)).any (standB s.1 b)
def holdsI (l : List Sec) (b : List UInt8) : Bool := l.any (holdS b)
theorem holdS_yes {b : List UInt8} {s : Sec} {i : Nat} (hi : i + b.length ≤ 256) (h : standB s.1 b i = true) : holdS b s = true := List.any_eq_true.2 ⟨i, List.mem_range.2 (by omega), h⟩
theorem holdS_no {b : List UInt8} {s : Sec} (h : ∀ i, i + b.length ≤ 256 → standB s.1 b i = false) : holdS b s = false := by
  rw [holdS, List.any_eq_false]
  intro i hi
  have := List.mem_range.1 hi
  rw [h i (by omega)]; decide
theorem holdsI_yes {l : List Sec} {b : List UInt8} {i : Nat} (hi : i < l.length) (h : holdS b (seAt l i) = true) : holdsI l b = true := List.any_eq_true.2 ⟨seAt l i, List.mem_of_getElem? (seAt_some hi), h⟩
theorem holdsI_no {l : List Sec} {b : List UInt8} (h : ∀ i, i < l.length → holdS b (seAt l i) = false) : holdsI l b = false := by
  rw [holdsI, List.any_eq_false]
  intro s hs
  obtain ⟨i, hi, rfl⟩ := List.mem_iff_getElem.1 hs
  have := h i hi
  rw [show seAt l i = l[i] by rw [seAt, List.getD_eq_getElem?_getD, List.getElem?_eq_getElem hi]; rfl] at this
  rw [this]; decide
theorem stand_nil {x b : List UInt8} (h : b.length = 0) : standB x b 0 = true := by
  obtain rfl := List.eq_nil_of_length_eq_zero h
  simp [standB]
theorem stand_sl {w : World} {g T j n : Nat} {s : Sec} {b : List UInt8} (h : (cells g T (seC s)).at_ w) (hj : j + n ≤ 256) (hb : b.length = n) : Sl w (.slice (some ⟨g, 0 + j * 1, none⟩) (j + n - j) (256 - j)) 1 (j + n - j) (bys ((s.1.drop j).take b.length)) := by
  refine Sl.cells h 1 (j + n - j) (256 - j) (0 + j * 1) _ ?_ (by rw [seC_len]; omega) (by omega) (by simp only [maxLen]; omega)
  rw [seC, bys_drop, bys_take, show (j + n - j) * 1 = b.length by omega, show 0 + j * 1 = j by omega]
theorem bys_next {x : List UInt8} {j : Nat} (h : j < x.length) : bys (x.take j) ++ [.int .u8 ((x.getD j 0).toNat : Int)] = bys (x.take (j + 1)) := by
  rw [show ([.int .u8 ((x.getD j 0).toNat : Int)] : List Value) = bys [x.getD j 0] from rfl, ← bys_append, take_one (x := x.getD j 0) (by rw [List.getD_eq_getElem?_getD, List.getElem?_eq_getElem h]; rfl)]
/-- How many sectors of a part are not noughts, of the first k. -/
def cntK (p : Pl) (l : List Sec) (s : ByteArray) : Nat → Nat
  | 0 => 0
  | k + 1 => cntK p l s k + if ¬ seAt l k = secZ ∧ partS p k = s then 1 else 0
theorem cntK_le (p : Pl) (l : List Sec) (s : ByteArray) : ∀ k, cntK p l s k ≤ k
  | 0 => Nat.le_refl _
  | k + 1 => by have := cntK_le p l s k; simp only [cntK]; split <;> omega
theorem cnt_step {p : Pl} {l : List Sec} {m : List (ByteArray × Int)} {k : Nat} (h : ∀ s, cntG m s = (cntK p l s k : Int)) (hz : ¬ seAt l k = secZ) : ∀ s, cntG (cntI (partS p k) m) s = (cntK p l s (k + 1) : Int) := by
  intro s
  rw [cntG_I, h s, cntK]
  by_cases e : s = partS p k
  · rw [if_pos e, if_pos ⟨hz, e.symm⟩]; omega
  · rw [if_neg e, if_neg (fun q => e q.2.symm)]; omega
theorem cnt_skip {p : Pl} {l : List Sec} {m : List (ByteArray × Int)} {k : Nat} (h : ∀ s, cntG m s = (cntK p l s k : Int)) (hz : seAt l k = secZ) : ∀ s, cntG m s = (cntK p l s (k + 1) : Int) := by
  intro s
  rw [h s, cntK, if_neg (fun q => q.1 hz)]; omega
theorem str_cell {A : List ByteArray} {i : Nat} {s : ByteArray} (hi : i < A.length) (h : A[i]? = some s) : (A.map Value.string)[i * 1]? = some (.string s) := by rw [Nat.mul_one, List.getElem?_map, h]; rfl
theorem hid_all (p : Pl) (i : Nat) (s : Sec) : bys (hidK (if partS p i = bsAudit then 256 else 0) s.1) = seC (mskA p i s) := by
  unfold mskA
  split
  · rfl
  · rw [hidK_zero]; rfl
theorem hid_step {p : Pl} {i j : Nat} {x : List UInt8} (ha : partS p i = bsAudit) (hj : j < x.length) (hm : maskB j = true) : splice (bys (hidK (if partS p i = bsAudit then j else 0) x)) (0 + j * 1) [.int .u8 0] = bys (hidK (if partS p i = bsAudit then j + 1 else 0) x) := by
  rw [if_pos ha, if_pos ha]; exact hidK_yes hj hm
theorem str_snoc (T : Nat) (v : Value) (A : List ByteArray) (i : Nat) (x : ByteArray) : Res.row T 1 v ((A ++ List.replicate i x).length + 1) ((A ++ List.replicate i x).map Value.string ++ [.string x]) = Res.row T 1 v (A ++ List.replicate (i + 1) x).length ((A ++ List.replicate (i + 1) x).map Value.string) := by
  have e1 : (A ++ List.replicate i x).length + 1 = (A ++ List.replicate (i + 1) x).length := by simp only [List.length_append, List.length_replicate]; omega
  have e2 : (A ++ List.replicate i x).map Value.string ++ [.string x] = (A ++ List.replicate (i + 1) x).map Value.string := by simp [List.replicate_succ']
  rw [e1, e2]
theorem fill_sec {z v : Value} {L L0 : List Value} {sz : Nat} (hv : v.cells = ⟨L⟩) (hl : L.length = sz) (hz : L0.length = sz) : Instr.fill (fun i => some (i * sz, sz)) ⟨L0⟩ [(0, v)] = some ⟨L⟩ :=
  fill_more 0 sz (by rw [Nat.zero_mul]) hv hl (by omega) (splice_all _ _ (by omega)) (fill_done rfl)
end Go.Mo
