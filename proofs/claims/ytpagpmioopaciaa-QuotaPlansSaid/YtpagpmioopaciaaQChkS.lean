/- Texts cut into chunks: plain laws. -/
import Derived.Test.YtpagpmioopaciaaQBinS
import Derived.Test.YtpagpmioopaciaaQAudS
set_option linter.unusedVariables false
set_option linter.unusedSimpArgs false
namespace Go.Mo
open Go.RowKit
def cntC (n : Nat) : Nat := (n + 255) / 256
def cntZ (n : Int) : Int := if n < 1 then 0 else (n - 1) / 256 + 1
theorem cntZ_nat (n : Nat) : cntZ (n : Int) = (cntC n : Int) := by
  unfold cntZ cntC
  split <;> omega
def chA (l : List UInt8) (i : Nat) : List UInt8 := (l.drop (256 * i)).take 256
def chI (l : List UInt8) : List (Nat × List UInt8) := (List.range (cntC l.length)).map fun i => (i, chA l i)
/-- A chunk as it is handed over: its place, its bytes, the slice. -/
abbrev CE := Nat × List UInt8 × Value
def ceN (x : CE) : Nat × List UInt8 := (x.1, x.2.1)
def okC (l : List UInt8) (xs : List CE) : Prop := xs.map ceN = chI l
theorem chI_len (l : List UInt8) : (chI l).length = cntC l.length := by simp [chI]
theorem chI_at {l : List UInt8} {i : Nat} (h : 256 * i < l.length) : (chI l)[i]? = some (i, chA l i) := by
  have hi : i < cntC l.length := by unfold cntC; omega
  unfold chI
  rw [List.getElem?_map, List.getElem?_range hi]; rfl
theorem okC_mid {l : List UInt8} {q : List CE} {i : Nat} (hq : q.map ceN = (chI l).take i) (h : 256 * i < l.length) (v : Value) : okC l (q ++ (i, chA l i, v) :: ((chI l).drop (i + 1)).map fun y => (y.1, y.2, .slice none 0 0)) := by
  unfold okC
  rw [List.map_append, List.map_cons, hq, List.map_map]
  have e : (ceN ∘ fun y : Nat × List UInt8 => ((y.1, y.2, Value.slice none 0 0) : CE)) = id := rfl
  rw [e, List.map_id]
  have h2 := chI_at h
  obtain ⟨hl, h3⟩ := List.getElem?_eq_some_iff.1 h2
  have h4 := List.take_append_drop i (chI l)
  rw [List.drop_eq_getElem_cons hl, h3] at h4
  exact h4
theorem okC_next {l : List UInt8} {q : List CE} {i : Nat} (hq : q.map ceN = (chI l).take i) (h : 256 * i < l.length) (v : Value) : (q ++ [(i, chA l i, v)]).map ceN = (chI l).take (i + 1) := by
  rw [List.map_append, hq, List.take_add_one, chI_at h]; rfl
theorem okC_end {l : List UInt8} {q : List CE} {i : Nat} (hq : q.map ceN = (chI l).take i) (h : l.length ≤ 256 * i) : okC l q := by
  unfold okC
  rw [hq, List.take_of_length_le (by rw [chI_len]; unfold cntC; omega)]
theorem okC_len {l : List UInt8} {q s : List CE} {x : CE} (h : okC l (q ++ x :: s)) : q.length < cntC l.length := by
  have := congrArg List.length h
  rw [List.length_map, chI_len, List.length_append, List.length_cons] at this
  omega
theorem chA_len (l : List UInt8) (i : Nat) : (chA l i).length ≤ 256 := by unfold chA; rw [List.length_take]; omega
theorem okC_le {l : List UInt8} {q s : List CE} {x : CE} (h : okC l (q ++ x :: s)) : x.2.1.length ≤ 256 := by
  have hm : ceN x ∈ chI l := by rw [← h]; exact List.mem_map_of_mem (by simp)
  obtain ⟨i, _, e⟩ := List.mem_map.1 hm
  have := chA_len l i
  rw [show x.2.1 = (ceN x).2 from rfl, ← e]; exact this
def chunkW : List UInt8 := [99, 104, 117, 110, 107]
def chSum (c : List UInt8) : A32 := ⟨sumB (chunkW ++ c), sumB_length _⟩
def adrsC (l : List UInt8) : List A32 := (chI l).map fun y => chSum y.2
def adrsQ (q : List CE) : List A32 := q.map fun x => chSum x.2.1
theorem adrsQ_all {l : List UInt8} {q : List CE} (h : okC l q) : adrsQ q = adrsC l := by
  unfold adrsQ adrsC
  rw [← h, List.map_map]; rfl
theorem adrsQ_snoc (q : List CE) (x : CE) : adrsQ (q ++ [x]) = adrsQ q ++ [chSum x.2.1] := by unfold adrsQ; rw [List.map_append]; rfl
theorem adrsQ_len (q : List CE) : (adrsQ q).length = q.length := by unfold adrsQ; rw [List.length_map]
theorem adrsC_len (l : List UInt8) : (adrsC l).length = cntC l.length := by unfold adrsC; rw [List.length_map, chI_len]
theorem adcR_snoc (T : Nat) (v : Value) (l : List A32) (x : A32) : Res.row T 32 v (l.length + 1) (l.flatMap adC ++ bys x.1) = .row T 32 v (l ++ [x]).length ((l ++ [x]).flatMap adC) := by simp [adC]
theorem left_next (l : List UInt8) (i : Nat) {k : Nat} (hk : k = min (l.length - 256 * i) 256) (h : 256 * i < l.length) : ((l.drop (256 * i)).drop k).take (l.length - 256 * i - k) = l.drop (256 * (i + 1)) := by
  rw [List.drop_drop]
  by_cases h2 : l.length - 256 * i ≤ 256
  · rw [List.drop_of_length_le (by omega), List.drop_of_length_le (i := 256 * (i + 1)) (by omega), List.take_nil]
  · rw [show 256 * i + k = 256 * (i + 1) by omega, List.take_of_length_le (by rw [List.length_drop]; omega)]
theorem take_min (l : List UInt8) (i : Nat) {k : Nat} (hk : k = min (l.length - 256 * i) 256) : (l.drop (256 * i)).take k = chA l i := by
  unfold chA
  by_cases h2 : l.length - 256 * i ≤ 256
  · rw [List.take_of_length_le (by rw [List.length_drop]; omega), List.take_of_length_le (by rw [List.length_drop]; omega)]
  · rw [show k = 256 by omega]
theorem chA_min (l : List UInt8) (i : Nat) {k : Nat} (hk : k = min (l.length - 256 * i) 256) : (chA l i).length = k := by
  unfold chA; rw [List.length_take, List.length_drop]; omega
end Go.Mo
