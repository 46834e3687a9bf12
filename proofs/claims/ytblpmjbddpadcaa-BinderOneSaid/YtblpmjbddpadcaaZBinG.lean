/- Clips read back: plain laws. -/
import Derived.Test.YtblpmjbddpadcaaZBinS
set_option linter.unusedVariables false
set_option linter.unusedSimpArgs false
namespace Go.Mo
open Go.RowKit Go.Lib
theorem clipC_one (c : Clp) (A B : Option Addr) (n m ch ct : Nat) : ∀ u ∈ clipC c (.slice A n ch) (.slice B m ct), u.oneCell' = true := by
  intro u hu
  rw [clipC] at hu
  rcases List.mem_append.1 hu with h | h
  · exact bys_one _ u h
  · simp only [List.mem_cons, List.not_mem_nil, or_false] at h
    rcases h with h | h | h | h | h | h | h <;> subst h <;> rfl
theorem clp_ext {a b : Clp} (h1 : a.addr.1 = b.addr.1) (h2 : a.cls = b.cls) (h3 : a.made = b.made) (h4 : a.fired = b.fired) (h5 : a.event = b.event) (h6 : a.note = b.note) (h7 : a.holds = b.holds) (h8 : a.texts = b.texts) : a = b := by
  cases a; cases b
  simp only at h1 h2 h3 h4 h5 h6 h7 h8
  subst h2 h3 h4 h5 h6 h7 h8
  rw [Subtype.ext h1]
theorem str_ext {l l' : List ByteArray} (h : l.length = l'.length) (hall : ∀ j, j < l.length → strAt l j = strAt l' j) : l = l' := by
  apply List.ext_getElem? 
  intro j
  by_cases hj : j < l.length
  · rw [strAt_some hj, strAt_some (by omega), hall j hj]
  · rw [List.getElem?_eq_none (by omega), List.getElem?_eq_none (by omega)]
theorem int_ext {l l' : List Int} (h : l.length = l'.length) (hall : ∀ j, j < l.length → intAt l j = intAt l' j) : l = l' := by
  apply List.ext_getElem? 
  intro j
  by_cases hj : j < l.length
  · rw [intAt_some hj, intAt_some (by omega), hall j hj]
  · rw [List.getElem?_eq_none (by omega), List.getElem?_eq_none (by omega)]
abbrev CS := Bool × List UInt8
def sB (s : CS) (k : Int) : CS := (!curOk s.1 s.2 k, curL s.1 s.2 k)
def sT (s : CS) (k : Int) : CS := (curTextBad s.1 s.2 k, curL s.1 s.2 k)
def sN (s : CS) (k : Int) : Nat := curNum s.1 s.2 k
def sX (s : CS) (k : Int) : ByteArray := ⟨(curText s.1 s.2 k).toArray⟩
theorem curL_len (b : Bool) (l : List UInt8) (k : Int) : (curL b l k).length ≤ l.length := by
  unfold curL; split
  · rw [List.length_drop]; omega
  · exact Nat.le_refl _
theorem curOut_len (b : Bool) (l : List UInt8) (k : Nat) (h : k ≤ 256) : (curOut b l (k : Int)).length = k := by
  unfold curOut; split
  · rename_i h1
    simp only [curOk, Bool.and_eq_true, decide_eq_true_eq] at h1
    rw [List.length_take]; omega
  · rw [List.length_replicate]; omega
def txRun (s : CS) : Nat → List ByteArray × CS
  | 0 => ([], s)
  | n + 1 => ((txRun s n).1 ++ [sX (txRun s n).2 16], sT (txRun s n).2 16)
def nmRun (s : CS) : Nat → List Int × CS
  | 0 => ([], s)
  | n + 1 => ((nmRun s n).1 ++ [(sN (nmRun s n).2 1 : Int)], sB (nmRun s n).2 1)
theorem txRun_len (s : CS) : ∀ n, (txRun s n).1.length = n
  | 0 => rfl
  | n + 1 => by rw [txRun, List.length_append, txRun_len s n]; rfl
theorem nmRun_len (s : CS) : ∀ n, (nmRun s n).1.length = n
  | 0 => rfl
  | n + 1 => by rw [nmRun, List.length_append, nmRun_len s n]; rfl
theorem sB_le {s : CS} {k : Int} {m : Nat} (h : s.2.length ≤ m) : (sB s k).2.length ≤ m := Nat.le_trans (curL_len _ _ _) h
theorem sT_le {s : CS} {k : Int} {m : Nat} (h : s.2.length ≤ m) : (sT s k).2.length ≤ m := Nat.le_trans (curL_len _ _ _) h
theorem txRun_le {s : CS} {m : Nat} (h : s.2.length ≤ m) : ∀ n, (txRun s n).2.2.length ≤ m
  | 0 => h
  | n + 1 => sT_le (txRun_le h n)
theorem nmRun_le {s : CS} {m : Nat} (h : s.2.length ≤ m) : ∀ n, (nmRun s n).2.2.length ≤ m
  | 0 => h
  | n + 1 => sB_le (nmRun_le h n)
def k1 (l : List UInt8) : CS := sB (false, l) 4
def k2 (l : List UInt8) : CS := sB (k1 l) 32
def k3 (l : List UInt8) : CS := sB (k2 l) 1
def k4 (l : List UInt8) : CS := sB (k3 l) 6
def k5 (l : List UInt8) : CS := sB (k4 l) 1
def k6 (l : List UInt8) : CS := sB (k5 l) 6
def k7 (l : List UInt8) : CS := sT (k6 l) 32
def k8 (l : List UInt8) : CS := sB (k7 l) 1
def nH (l : List UInt8) : Nat := min (sN (k7 l) 1) 5
def k9 (l : List UInt8) : CS := (txRun (k8 l) (nH l)).2
def k10 (l : List UInt8) : CS := sB (k9 l) 1
def nT (l : List UInt8) : Nat := min (sN (k9 l) 1) 5
def k11 (l : List UInt8) : CS := (nmRun (k10 l) (nT l)).2
def rA (l : List UInt8) : A32 := ⟨curOut (k1 l).1 (k1 l).2 32, curOut_len _ _ 32 (by decide)⟩
def rC (l : List UInt8) : Clp := ⟨rA l, sN (k2 l) 1, sN (k3 l) 6, decide ((sN (k4 l) 1 : Int) = 1), sN (k5 l) 6, (txRun (k8 l) (nH l)).1, sX (k6 l) 32, (nmRun (k10 l) (nT l)).1⟩
def clpZ : Clp := ⟨a32Z, 0, 0, false, 0, [], ⟨#[]⟩, []⟩
def rTag (l : List UInt8) : Bool := decide (curOut false l 4 = [67, 76, 73, 80])
def rOk (l : List UInt8) : Bool := rTag l && (!(k11 l).1 && zeroL (k11 l).2) && decide (sN (k4 l) 1 < 2)
def rV (l : List UInt8) : Clp := if rTag l = true then rC l else clpZ
theorem k_le {l : List UInt8} {m : Nat} (h : l.length ≤ m) : (k1 l).2.length ≤ m ∧ (k2 l).2.length ≤ m ∧ (k3 l).2.length ≤ m ∧ (k4 l).2.length ≤ m ∧ (k5 l).2.length ≤ m ∧ (k6 l).2.length ≤ m ∧ (k7 l).2.length ≤ m ∧ (k8 l).2.length ≤ m ∧ (k9 l).2.length ≤ m ∧ (k10 l).2.length ≤ m ∧ (k11 l).2.length ≤ m := by
  have h1 : (k1 l).2.length ≤ m := sB_le (s := (false, l)) h
  have h2 := sB_le (k := 32) h1
  have h3 := sB_le (k := 1) h2
  have h4 := sB_le (k := 6) h3
  have h5 := sB_le (k := 1) h4
  have h6 := sB_le (k := 6) h5
  have h7 := sT_le (k := 32) h6
  have h8 := sB_le (k := 1) h7
  have h9 := txRun_le h8 (nH l)
  have h10 := sB_le (k := 1) h9
  exact ⟨h1, h2, h3, h4, h5, h6, h7, h8, h9, h10, nmRun_le h10 (nT l)⟩
theorem sN_lt (s : CS) (k : Nat) (h : k ≤ 8) : sN s (k : Int) < 256 ^ k := by
  have e := curOut_len s.1 s.2 k (by omega)
  have := getL_lt (curOut s.1 s.2 (k : Int))
  rw [e] at this
  rw [sN, curNum, List.take_of_length_le (by omega)]
  exact this
theorem sN1 (s : CS) : curNum s.1 s.2 1 < 256 := sN_lt s 1 (by decide)
theorem sN6 (s : CS) : curNum s.1 s.2 6 < 281474976710656 := sN_lt s 6 (by decide)
def clpZc : List Value := List.replicate 32 (.int .u8 0) ++ [.int .i64 0, .int .i64 0, .bool false, .int .i64 0, .slice none 0 0, .string ⟨#[]⟩, .slice none 0 0]
theorem clpZ_c : clpZc = clipC clpZ (.slice none 0 0) (.slice none 0 0) := by
  have e : bys clpZ.addr.1 = List.replicate 32 (Value.int .u8 0) := bys_replicate 32 0
  rw [clipC, e]; rfl
theorem clip_setA (c : Clp) (hv tv : Value) (a : A32) : splice (clipC c hv tv) 0 (bys a.1) = clipC { c with addr := a } hv tv := by
  have h1 : (bys a.1).length = 32 := by rw [bys_length]; exact a.2
  rw [splice, clipC, clipC, h1, List.take_zero, List.nil_append, Nat.zero_add, List.drop_left' (cl_addr_len c)]
theorem clip_set0 (a : A32) : splice clpZc 0 (bys a.1) = clipC { clpZ with addr := a } (.slice none 0 0) (.slice none 0 0) := by rw [clpZ_c, clip_setA]
theorem clip_setC (c : Clp) (hv tv : Value) (x : Int) : splice (clipC c hv tv) 32 [.int .i64 x] = clipC { c with cls := x } hv tv := by
  have := splice_one (bys c.addr.1) 32 (.int .i64 c.cls) (.int .i64 x) [.int .i64 c.made, .bool c.fired, .int .i64 c.event, hv, .string c.note, tv] (cl_addr_len c)
  simpa [clipC] using this
theorem clip_setM (c : Clp) (hv tv : Value) (x : Int) : splice (clipC c hv tv) 33 [.int .i64 x] = clipC { c with made := x } hv tv := by
  have := splice_one (bys c.addr.1 ++ [.int .i64 c.cls]) 33 (.int .i64 c.made) (.int .i64 x) [.bool c.fired, .int .i64 c.event, hv, .string c.note, tv] (by rw [List.length_append, cl_addr_len]; rfl)
  simpa [clipC] using this
theorem clip_setF (c : Clp) (hv tv : Value) (x : Bool) : splice (clipC c hv tv) 34 [.bool x] = clipC { c with fired := x } hv tv := by
  have := splice_one (bys c.addr.1 ++ [.int .i64 c.cls, .int .i64 c.made]) 34 (.bool c.fired) (.bool x) [.int .i64 c.event, hv, .string c.note, tv] (by rw [List.length_append, cl_addr_len]; rfl)
  simpa [clipC] using this
theorem clip_setE (c : Clp) (hv tv : Value) (x : Int) : splice (clipC c hv tv) 35 [.int .i64 x] = clipC { c with event := x } hv tv := by
  have := splice_one (bys c.addr.1 ++ [.int .i64 c.cls, .int .i64 c.made, .bool c.fired]) 35 (.int .i64 c.event) (.int .i64 x) [hv, .string c.note, tv] (by rw [List.length_append, cl_addr_len]; rfl)
  simpa [clipC] using this
theorem clip_setN (c : Clp) (hv tv : Value) (x : ByteArray) : splice (clipC c hv tv) 37 [.string x] = clipC { c with note := x } hv tv := by
  have := splice_one (bys c.addr.1 ++ [.int .i64 c.cls, .int .i64 c.made, .bool c.fired, .int .i64 c.event, hv]) 37 (.string c.note) (.string x) [tv] (by rw [List.length_append, cl_addr_len]; rfl)
  simpa [clipC] using this
theorem txRun_map (s : CS) (n : Nat) : (txRun s (n + 1)).1.map Value.string = (txRun s n).1.map Value.string ++ [.string (sX (txRun s n).2 16)] := by rw [txRun, List.map_append]; rfl
theorem nmRun_map (s : CS) (n : Nat) : (nmRun s (n + 1)).1.map (Value.int .i64) = (nmRun s n).1.map (Value.int .i64) ++ [.int .i64 (sN (nmRun s n).2 1 : Int)] := by rw [nmRun, List.map_append]; rfl
theorem rV_yes {l : List UInt8} (h : rTag l = true) : rV l = rC l := by rw [rV, if_pos h]
theorem rV_no {l : List UInt8} (h : rTag l = false) : rV l = clpZ := by rw [rV, if_neg (by rw [h]; decide)]
theorem rC_hn (l : List UInt8) : (rC l).holds.length = nH l := txRun_len _ _
theorem rC_tn (l : List UInt8) : (rC l).texts.length = nT l := nmRun_len _ _
theorem rOk_no {l : List UInt8} (h : rTag l = false) : rOk l = false := by rw [rOk, h]; rfl
theorem rC_c (l : List UInt8) (hv tv : Value) : clipC { clpZ with addr := rA l, cls := sN (k2 l) 1, made := sN (k3 l) 6, fired := decide ((sN (k4 l) 1 : Int) = 1), event := sN (k5 l) 6, note := sX (k6 l) 32 } hv tv = clipC (rC l) hv tv := by simp only [clipC, rC]
theorem tx_small (s : CS) : ∀ (n : Nat), ∀ y ∈ (txRun s n).1, y.size ≤ 4294967296
  | 0 => fun y hy => by cases hy
  | n + 1 => fun y hy => by
    rw [txRun] at hy
    rcases List.mem_append.1 hy with h | h
    · exact tx_small s n y h
    · rw [List.mem_singleton.1 h]
      have h1 := unpadL_le (b := curOut (txRun s n).2.1 (txRun s n).2.2 16)
      have h2 := curOut_len (txRun s n).2.1 (txRun s n).2.2 16 (by decide)
      have h3 : (unpadL (curOut (txRun s n).2.1 (txRun s n).2.2 16)).length ≤ 16 := Nat.le_trans h1 (Nat.le_of_eq h2)
      show (unpadL (curOut (txRun s n).2.1 (txRun s n).2.2 16)).length ≤ _
      omega
theorem rV_small (l : List UInt8) : ∀ y ∈ (rV l).holds, y.size ≤ 4294967296 := by
  unfold rV; split
  · exact tx_small _ _
  · intro y hy; cases hy
def gZ (x : List UInt8) : Prop := x = List.replicate 256 0
instance (x : List UInt8) : Decidable (gZ x) := by unfold gZ; infer_instance
def gOk (x : List UInt8) (m k : Int) : Bool := decide (¬ gZ x) && holdsL x && rOk (x.take 252) && decide (clpC (rV (x.take 252)) m k = 0)
def gV (x : List UInt8) (m k : Int) : Clp := if gOk x m k = true then rV (x.take 252) else clpZ
def gE (x : List UInt8) (m k : Int) : Int := if gZ x ∨ gOk x m k = true then 0 else 5
theorem gOk_iff {x : List UInt8} {m k : Int} : gOk x m k = true ↔ ¬ gZ x ∧ holdsL x = true ∧ rOk (x.take 252) = true ∧ clpC (rV (x.take 252)) m k = 0 := by
  simp only [gOk, Bool.and_eq_true, decide_eq_true_eq, and_assoc]
theorem gOk_no {x : List UInt8} {m k : Int} (h : ¬ (¬ gZ x ∧ holdsL x = true ∧ rOk (x.take 252) = true ∧ clpC (rV (x.take 252)) m k = 0)) : gOk x m k = false := by
  cases e : gOk x m k
  · rfl
  · exact absurd (gOk_iff.1 e) h
theorem gV_yes {x : List UInt8} {m k : Int} (h : gOk x m k = true) : gV x m k = rV (x.take 252) := by rw [gV, if_pos h]
theorem gV_no {x : List UInt8} {m k : Int} (h : gOk x m k = false) : gV x m k = clpZ := by rw [gV, if_neg (by rw [h]; decide)]
theorem gE_yes {x : List UInt8} {m k : Int} (h : gOk x m k = true) : gE x m k = 0 := by rw [gE, if_pos (.inr h)]
theorem gE_z {x : List UInt8} {m k : Int} (h : gZ x) : gE x m k = 0 := by rw [gE, if_pos (.inl h)]
theorem gE_no {x : List UInt8} {m k : Int} (hz : ¬ gZ x) (h : gOk x m k = false) : gE x m k = 5 := by rw [gE, if_neg (by rw [h]; simp [hz])]
end Go.Mo
