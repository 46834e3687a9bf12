/- Masks: what the examples of the laws come to. -/
import Derived.Test.YtblpmjbddpadcaaMaskS
set_option linter.unusedVariables false
set_option linter.unusedSimpArgs false
namespace Go.Mo
open Go.RowKit Go.Lib
def setB (s : Sec) (j : Nat) (v : UInt8) : Sec := ⟨s.1.set j v, by rw [List.length_set]; exact s.2⟩
theorem setB_cells {s : Sec} {j : Nat} {v : UInt8} : (seC s).set j (.int .u8 (v.toNat : Int)) = seC (setB s j v) := bys_set _ _ _
theorem se_set {l : List Sec} {i j : Nat} (v : UInt8) (hi : i < l.length) (hj : j < 256) : splice (l.flatMap seC) (0 + i * 256 + j * 1) [.int .u8 (v.toNat : Int)] = (l.set i (setB (seAt l i) j v)).flatMap seC := by
  rw [← flat_set seC_len l i _ hi, ← setB_cells]
  have hl : (l.flatMap seC).length = l.length * 256 := flat_length seC_len l
  have hb : i * 256 + 256 ≤ l.length * 256 := by omega
  apply List.ext_getElem?
  intro q
  rw [splice_get _ _ _ (by simp only [List.length_cons, List.length_nil]; omega), splice_get _ _ _ (by rw [List.length_set, seC_len]; omega)]
  simp only [List.length_cons, List.length_nil, List.length_set, seC_len]
  by_cases h1 : q < i * 256
  · rw [if_pos (by omega), if_pos h1]
  · rw [if_neg h1]
    by_cases h2 : q < i * 256 + 256
    · rw [if_pos h2, List.getElem?_set]
      by_cases h3 : q = i * 256 + j
      · rw [if_neg (by omega), if_pos (by omega), if_pos (by omega), if_pos (by rw [seC_len]; omega), h3, show i * 256 + j - (0 + i * 256 + j * 1) = 0 by omega]; rfl
      · rw [if_neg (by omega : ¬ j = q - i * 256)]
        have e := flat_get seC_len l i (q - i * 256) (seAt l i) (by omega) (seAt_some hi)
        rw [show i * 256 + (q - i * 256) = q by omega] at e
        by_cases h4 : q < 0 + i * 256 + j * 1
        · rw [if_pos h4]; exact e
        · rw [if_neg h4, if_neg (by omega)]; exact e
    · rw [if_neg h2, if_neg (by omega), if_neg (by omega)]
theorem secZ_cells : (⟨List.replicate 256 (Value.int .u8 0)⟩ : Array Value) = ⟨seC secZ⟩ := congrArg Array.mk (bys_replicate 256 0).symm
def pl0 : Pl := ⟨2, 1, 1, 1⟩
theorem pl0_ok : planC pl0 = 0 := by decide
theorem layV_len (p : Pl) : (layV p).length = 14 := by unfold layV; split <;> rfl
theorem layV_one (p : Pl) : ∀ u ∈ layV p, u.oneCell' = true := by
  unfold layV
  split
  · simp only [layC]
    repeat' apply oneC rfl
    exact one0
  · intro u hu; rw [List.eq_of_mem_replicate hu]; rfl
def imA : List Sec := List.replicate 23 secZ
def imB1 : List Sec := imA.set 8 (setB (seAt imA 8) 60 7)
def imB2 : List Sec := imB1.set 8 (setB (seAt imB1 8) 5 7)
def imB3 : List Sec := imB2.set 1 (setB (seAt imB2 1) 59 3)
theorem imA_length : imA.length = 23 := rfl
theorem imB1_length : imB1.length = 23 := rfl
theorem imB2_length : imB2.length = 23 := rfl
theorem imB3_length : imB3.length = 23 := rfl
theorem w23_c : unl (imask pl0 imA) (imask pl0 imB1) (max 23 23) = [] := by decide +kernel
theorem w23_d : unl (imask pl0 imA) (imask pl0 imB3) (max 23 23) = [1, 8] := by decide +kernel
theorem w23_dif : ((difN imA imB3 (max 23 23) : Nat) : Int) = 3 := by decide +kernel
theorem w23_h1 : holdsI imB3 [7, 0, 0] = true := holdsI_yes (i := 8) (by decide) (holdS_yes (i := 60) (by decide) (by decide +kernel))
theorem w23_z : holdS [7] secZ = false := holdS_no fun i hi => by
  have e : (List.replicate 256 (0 : UInt8)).drop i = List.replicate (256 - i) 0 := List.drop_replicate
  have hi' : i + 1 ≤ 256 := hi
  rw [standB, decide_eq_false_iff_not]
  intro q
  rw [show secZ.1 = List.replicate 256 0 from rfl, e, show ([7] : List UInt8).length = 1 from rfl, show 256 - i = (255 - i) + 1 by omega, List.replicate_succ] at q
  simp at q
theorem w23_h2 : holdsI imA [7] = false := holdsI_no fun i hi => by
  have : seAt imA i = secZ := by
    rw [seAt, List.getD_eq_getElem?_getD]
    simp only [imA, List.getElem?_replicate]
    split <;> rfl
  rw [this]; exact w23_z
theorem w23_n1 : ((cntK pl0 imB3 bsAudit 23 : Nat) : Int) = 1 := by decide +kernel
theorem w23_n2 : ((cntK pl0 imB3 bsSlot 23 : Nat) : Int) = 0 := by decide +kernel
/-! ### The law's counts -/
def partNames : List ByteArray := [bsSuper, bsState, bsMap, bsClasses, bsIndex, bsText, bsClip, bsAudit, bsHead, bsBody, bsSlot, bsE]
def nmA (i : Nat) : ByteArray := partNames.getD i bsE
theorem nmA_some {i : Nat} (h : i < 12) : partNames[i]? = some (nmA i) := by
  rw [nmA, List.getD_eq_getElem?_getD, List.getElem?_eq_getElem (show i < partNames.length from h)]; rfl
theorem cntK_yes {p : Pl} {l : List Sec} {s : ByteArray} {k : Nat} (hz : ¬ (seAt l k).1 = secZ.1) (h : partS p k = s) : cntK p l s (k + 1) = cntK p l s k + 1 := by rw [cntK, if_pos ⟨fun e => hz (congrArg Subtype.val e), h⟩]
theorem cntK_z {p : Pl} {l : List Sec} (s : ByteArray) {k : Nat} (hz : (seAt l k).1 = secZ.1) : cntK p l s (k + 1) = cntK p l s k := by rw [cntK, if_neg (fun q => q.1 (sec_ext hz))]; rfl
theorem cntK_n {p : Pl} {l : List Sec} {s : ByteArray} {k : Nat} (h : ¬ partS p k = s) : cntK p l s (k + 1) = cntK p l s k := by rw [cntK, if_neg (fun q => h q.2)]; rfl
theorem int_cell {w : World} {g b m m' c i : Nat} {k : IntKind} {L : List Int} (h : Sl w (.slice (some ⟨g, b, none⟩) m c) 1 m' (L.map (Value.int k))) (hi : i < L.length) : w.cell? ⟨g, b + i * 1, none⟩ = some (.int k (L.getD i 0)) :=
  h.get (i * 1) _ (by rw [Nat.mul_one, List.getElem?_map, List.getD_eq_getElem?_getD, List.getElem?_eq_getElem hi]; rfl)
end Go.Mo
