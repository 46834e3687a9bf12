/- Clips: what is wrong with them, their bytes, their addresses: plain laws. -/
import Derived.Test.YtblpmjbddpadcaaZAudS
import Derived.Laws.Cover3
import Derived.Laws.IdiomStrings
set_option linter.unusedVariables false
set_option linter.unusedSimpArgs false
namespace Go.Mo
open Go.RowKit Go.Lib
structure Clp where
  addr : A32
  cls : Int
  made : Int
  fired : Bool
  event : Int
  holds : List ByteArray
  note : ByteArray
  texts : List Int
/-- The cells of a clip; the slices of its holds and its texts. -/
def clipC (c : Clp) (hv tv : Value) : List Value := bys c.addr.1 ++ [.int .i64 c.cls, .int .i64 c.made, .bool c.fired, .int .i64 c.event, hv, .string c.note, tv]
theorem cl_addr_len (c : Clp) : (bys c.addr.1).length = 32 := by rw [bys_length]; exact c.addr.2
theorem clipC_len (c : Clp) (hv tv : Value) : (clipC c hv tv).length = 39 := by rw [clipC, List.length_append, cl_addr_len]; rfl
theorem clip_at (c : Clp) (hv tv : Value) (k : Nat) : (clipC c hv tv)[32 + k]? = ([.int .i64 c.cls, .int .i64 c.made, .bool c.fired, .int .i64 c.event, hv, .string c.note, tv] : List Value)[k]? := by
  rw [clipC, List.getElem?_append_right (by rw [cl_addr_len]; omega), cl_addr_len, Nat.add_sub_cancel_left]
theorem clip_cls (c : Clp) (hv tv : Value) : (clipC c hv tv)[32]? = some (.int .i64 c.cls) := clip_at c hv tv 0
theorem clip_made (c : Clp) (hv tv : Value) : (clipC c hv tv)[33]? = some (.int .i64 c.made) := clip_at c hv tv 1
theorem clip_fired (c : Clp) (hv tv : Value) : (clipC c hv tv)[34]? = some (.bool c.fired) := clip_at c hv tv 2
theorem clip_event (c : Clp) (hv tv : Value) : (clipC c hv tv)[35]? = some (.int .i64 c.event) := clip_at c hv tv 3
theorem clip_holds (c : Clp) (hv tv : Value) : (clipC c hv tv)[36]? = some hv := clip_at c hv tv 4
theorem clip_note (c : Clp) (hv tv : Value) : (clipC c hv tv)[37]? = some (.string c.note) := clip_at c hv tv 5
theorem clip_texts (c : Clp) (hv tv : Value) : (clipC c hv tv)[38]? = some tv := clip_at c hv tv 6
theorem clip_addr {c : Clp} {hv tv : Value} {j : Nat} {u : Value} (h : (bys c.addr.1)[j]? = some u) : (clipC c hv tv)[j]? = some u := by
  rw [clipC, List.getElem?_append_left (List.getElem?_eq_some_iff.1 h).1]; exact h
theorem clip_addrC (c : Clp) (hv tv : Value) : bys c.addr.1 = ((clipC c hv tv).drop 0).take (32 * 1) := by rw [List.drop_zero, clipC, List.take_left' (cl_addr_len c)]
theorem clip_byte (c : Clp) (hv tv : Value) {i : Nat} (h : i < 32) : (clipC c hv tv)[0 + i * 1]? = some (.int .u8 (((c.addr.1).getD i 0).toNat : Int)) := by
  rw [Nat.zero_add, Nat.mul_one]; exact clip_addr (bys_getD _ _ (by rw [c.addr.2]; exact h))
/-- Names, whole numbers, by their places. -/
def strAt (l : List ByteArray) (i : Nat) : ByteArray := l.getD i ⟨#[]⟩
theorem strAt_some {l : List ByteArray} {i : Nat} (h : i < l.length) : l[i]? = some (strAt l i) := by rw [strAt, List.getD_eq_getElem?_getD, List.getElem?_eq_getElem h]; rfl
theorem strAt_cell {l : List ByteArray} {i : Nat} (h : i < l.length) : (l.map Value.string)[i * 1]? = some (.string (strAt l i)) := by rw [Nat.mul_one, List.getElem?_map, strAt_some h]; rfl
def intAt (l : List Int) (i : Nat) : Int := l.getD i 0
theorem intAt_some {l : List Int} {i : Nat} (h : i < l.length) : l[i]? = some (intAt l i) := by rw [intAt, List.getD_eq_getElem?_getD, List.getElem?_eq_getElem h]; rfl
theorem intAt_cell {l : List Int} {i : Nat} (h : i < l.length) : (l.map (Value.int .i64))[i * 1]? = some (.int .i64 (intAt l i)) := by rw [Nat.mul_one, List.getElem?_map, intAt_some h]; rfl
theorem mem_at {α : Type} {l : List α} {i : Nat} {x : α} (h : l[i]? = some x) : x ∈ l := List.mem_of_getElem? h
theorem not_mem_at {α : Type} {l : List α} {x : α} (h : ∀ (j : Nat) (y : α), l[j]? = some y → ¬ y = x) : ¬ x ∈ l := fun hx => by
  obtain ⟨j, hj⟩ := List.getElem?_of_mem hx
  exact h j x hj rfl
theorem mem_take_str {l : List ByteArray} {i j : Nat} (hj : j < i) (hi : i ≤ l.length) (h : strAt l j = strAt l i) : strAt l i ∈ l.take i := by
  rw [← h]; exact List.mem_of_getElem? (i := j) (by rw [List.getElem?_take, if_pos hj]; exact strAt_some (by omega))
theorem mem_take_int {l : List Int} {i j : Nat} (hj : j < i) (hi : i ≤ l.length) (h : intAt l j = intAt l i) : intAt l i ∈ l.take i := by
  rw [← h]; exact List.mem_of_getElem? (i := j) (by rw [List.getElem?_take, if_pos hj]; exact intAt_some (by omega))
theorem no_take_str {l : List ByteArray} {i : Nat} {x : ByteArray} (h : ∀ j, j < i → j < l.length → ¬ strAt l j = x) : ¬ x ∈ l.take i := not_mem_at fun j y hj => by
  rw [List.getElem?_take] at hj
  split at hj
  · rename_i hji
    have hl := (List.getElem?_eq_some_iff.1 hj).1
    rw [strAt_some hl] at hj
    rw [← Option.some.inj hj]; exact h j hji hl
  · cases hj
theorem no_take_int {l : List Int} {i : Nat} {x : Int} (h : ∀ j, j < i → j < l.length → ¬ intAt l j = x) : ¬ x ∈ l.take i := not_mem_at fun j y hj => by
  rw [List.getElem?_take] at hj
  split at hj
  · rename_i hji
    have hl := (List.getElem?_eq_some_iff.1 hj).1
    rw [intAt_some hl] at hj
    rw [← Option.some.inj hj]; exact h j hji hl
  · cases hj
theorem Sl.cut1 {w : World} {A : Option Addr} {n c : Nat} {L : List Value} (h : Sl w (.slice A n c) 1 n L) (i : Nat) (hi : i ≤ n) : Sl w (.slice (if c = 0 then A else A.map (·.add (0 * 1))) (i - 0) (c - 0)) 1 i (L.take i) := by
  have := h.cut 0 i (Nat.zero_le _) hi
  rwa [Nat.zero_mul, List.drop_zero, Nat.mul_one] at this
instance decMemB (x : ByteArray) : (l : List ByteArray) → Decidable (x ∈ l)
  | [] => .isFalse (by simp)
  | y :: l => have := decMemB x l; decidable_of_iff (x = y ∨ x ∈ l) List.mem_cons.symm
def hoB (l : List ByteArray) (i : Nat) : Bool := decide (nameC (strAt l i) = 0 ∧ ¬ strAt l i ∈ l.take i)
def holdsC (l : List ByteArray) : Int := if 4 < l.length then 7 else match (List.range l.length).find? (fun i => !hoB l i) with
  | some i => if nameC (strAt l i) = 0 then 9 else nameC (strAt l i)
  | none => 0
theorem ho_long {l : List ByteArray} (h : 4 < l.length) : holdsC l = 7 := by rw [holdsC, if_pos h]
theorem holds_at {l : List ByteArray} {i : Nat} (h4 : ¬ 4 < l.length) (hi : i < l.length) (hok : ∀ j, j < i → hoB l j = true) (h : hoB l i = false) : holdsC l = if nameC (strAt l i) = 0 then 9 else nameC (strAt l i) := by
  have e : (List.range l.length).find? (fun i => !hoB l i) = some i := by
    rw [List.find?_range_eq_some]
    exact ⟨by rw [h]; rfl, List.mem_range.2 hi, fun j hj => by rw [hok j hj]; rfl⟩
  rw [holdsC, if_neg h4, e]
theorem hoB_no {l : List ByteArray} {i : Nat} (h : ¬ (nameC (strAt l i) = 0 ∧ ¬ strAt l i ∈ l.take i)) : hoB l i = false := by rw [hoB]; exact decide_eq_false h
theorem holds_bad {l : List ByteArray} {i : Nat} (h4 : ¬ 4 < l.length) (hi : i < l.length) (hok : ∀ j, j < i → hoB l j = true) (h : ¬ nameC (strAt l i) = 0) : holdsC l = nameC (strAt l i) := by
  rw [holds_at h4 hi hok (hoB_no fun q => h q.1), if_neg h]
theorem holds_dup {l : List ByteArray} {i : Nat} (h4 : ¬ 4 < l.length) (hi : i < l.length) (hok : ∀ j, j < i → hoB l j = true) (hn : nameC (strAt l i) = 0) (h : strAt l i ∈ l.take i) : holdsC l = 9 := by
  rw [holds_at h4 hi hok (hoB_no fun q => q.2 h), if_pos hn]
theorem holds_ok {l : List ByteArray} (h4 : ¬ 4 < l.length) (hok : ∀ j, j < l.length → hoB l j = true) : holdsC l = 0 := by
  have e : (List.range l.length).find? (fun i => !hoB l i) = none := by
    rw [List.find?_eq_none]
    intro i hi
    rw [hok i (List.mem_range.1 hi)]; simp
  rw [holdsC, if_neg h4, e]
theorem hoB_yes {l : List ByteArray} {i : Nat} (h : nameC (strAt l i) = 0) (h2 : ¬ strAt l i ∈ l.take i) : hoB l i = true := by rw [hoB]; exact decide_eq_true ⟨h, h2⟩
def txB (l : List Int) (n : Int) (i : Nat) : Bool := decide ((0 ≤ intAt l i ∧ intAt l i < n) ∧ ¬ intAt l i ∈ l.take i)
def textsC (l : List Int) (n : Int) : Int := if l.length < 1 ∨ 4 < l.length then 1 else match (List.range l.length).find? (fun i => !txB l n i) with
  | some i => if 0 ≤ intAt l i ∧ intAt l i < n then 9 else 2
  | none => 0
theorem texts_long {l : List Int} {n : Int} (h : l.length < 1 ∨ 4 < l.length) : textsC l n = 1 := by rw [textsC, if_pos h]
theorem texts_at {l : List Int} {n : Int} {i : Nat} (h4 : ¬ (l.length < 1 ∨ 4 < l.length)) (hi : i < l.length) (hok : ∀ j, j < i → txB l n j = true) (h : txB l n i = false) : textsC l n = if 0 ≤ intAt l i ∧ intAt l i < n then 9 else 2 := by
  have e : (List.range l.length).find? (fun i => !txB l n i) = some i := by
    rw [List.find?_range_eq_some]
    exact ⟨by rw [h]; rfl, List.mem_range.2 hi, fun j hj => by rw [hok j hj]; rfl⟩
  rw [textsC, if_neg h4, e]
theorem txB_no {l : List Int} {n : Int} {i : Nat} (h : ¬ ((0 ≤ intAt l i ∧ intAt l i < n) ∧ ¬ intAt l i ∈ l.take i)) : txB l n i = false := by rw [txB]; exact decide_eq_false h
theorem texts_bad {l : List Int} {n : Int} {i : Nat} (h4 : ¬ (l.length < 1 ∨ 4 < l.length)) (hi : i < l.length) (hok : ∀ j, j < i → txB l n j = true) (h : ¬ (0 ≤ intAt l i ∧ intAt l i < n)) : textsC l n = 2 := by
  rw [texts_at h4 hi hok (txB_no fun q => h q.1), if_neg h]
theorem texts_dup {l : List Int} {n : Int} {i : Nat} (h4 : ¬ (l.length < 1 ∨ 4 < l.length)) (hi : i < l.length) (hok : ∀ j, j < i → txB l n j = true) (hn : 0 ≤ intAt l i ∧ intAt l i < n) (h : intAt l i ∈ l.take i) : textsC l n = 9 := by
  rw [texts_at h4 hi hok (txB_no fun q => q.2 h), if_pos hn]
theorem texts_ok {l : List Int} {n : Int} (h4 : ¬ (l.length < 1 ∨ 4 < l.length)) (hok : ∀ j, j < l.length → txB l n j = true) : textsC l n = 0 := by
  have e : (List.range l.length).find? (fun i => !txB l n i) = none := by
    rw [List.find?_eq_none]
    intro i hi
    rw [hok i (List.mem_range.1 hi)]; simp
  rw [textsC, if_neg h4, e]
theorem txB_yes {l : List Int} {n : Int} {i : Nat} (h : 0 ≤ intAt l i ∧ intAt l i < n) (h2 : ¬ intAt l i ∈ l.take i) : txB l n i = true := by rw [txB]; exact decide_eq_true ⟨h, h2⟩
def clpT (c : Clp) : Prop := 0 ≤ c.made ∧ c.made ≤ 1099511627776 ∧ 0 ≤ c.event ∧ c.event ≤ 1099511627776 ∧ (c.fired = true ∨ c.event = 0)
instance (c : Clp) : Decidable (clpT c) := by unfold clpT; infer_instance
def clpC (c : Clp) (m k : Int) : Int := if c.cls < 0 ∨ m ≤ c.cls ∨ 8 ≤ c.cls then 13 else if clpT c then (if 31 < c.note.size then 15 else if holdsC c.holds = 0 then textsC c.texts (min k 40) else holdsC c.holds) else 2
theorem clpC_1 {c : Clp} {m k : Int} (h : c.cls < 0 ∨ m ≤ c.cls ∨ 8 ≤ c.cls) : clpC c m k = 13 := by rw [clpC, if_pos h]
theorem clpC_2 {c : Clp} {m k : Int} (h1 : ¬ (c.cls < 0 ∨ m ≤ c.cls ∨ 8 ≤ c.cls)) (h : ¬ clpT c) : clpC c m k = 2 := by rw [clpC, if_neg h1, if_neg h]
theorem clpC_3 {c : Clp} {m k : Int} (h1 : ¬ (c.cls < 0 ∨ m ≤ c.cls ∨ 8 ≤ c.cls)) (h2 : clpT c) (h : 31 < c.note.size) : clpC c m k = 15 := by rw [clpC, if_neg h1, if_pos h2, if_pos h]
theorem clpC_4 {c : Clp} {m k : Int} (h1 : ¬ (c.cls < 0 ∨ m ≤ c.cls ∨ 8 ≤ c.cls)) (h2 : clpT c) (h3 : ¬ 31 < c.note.size) (h : ¬ holdsC c.holds = 0) : clpC c m k = holdsC c.holds := by rw [clpC, if_neg h1, if_pos h2, if_neg h3, if_neg h]
theorem clpC_5 {c : Clp} {m k : Int} (h1 : ¬ (c.cls < 0 ∨ m ≤ c.cls ∨ 8 ≤ c.cls)) (h2 : clpT c) (h3 : ¬ 31 < c.note.size) (h : holdsC c.holds = 0) : clpC c m k = textsC c.texts (min k 40) := by rw [clpC, if_neg h1, if_pos h2, if_neg h3, if_pos h]
def laidA (l : List A32) : List UInt8 := l.flatMap fun a => a.1
def clSaid (name : ByteArray) (made : Int) (note : ByteArray) (l : List A32) : List UInt8 := [99, 108, 105, 112] ++ (putL name.size 2 ++ (name.data.toList ++ (putL note.size 2 ++ (note.data.toList ++ (putL (u64N made) 8 ++ laidA l)))))
theorem laidA_length : ∀ l : List A32, (laidA l).length = 32 * l.length
  | [] => rfl
  | a :: l => by
    have := laidA_length l
    simp only [laidA] at this
    rw [laidA, List.flatMap_cons, List.length_append, a.2, this, List.length_cons]; omega
def adAt (l : List A32) (i : Nat) : A32 := l.getD i a32Z
theorem adAt_some {l : List A32} {i : Nat} (h : i < l.length) : l[i]? = some (adAt l i) := by rw [adAt, List.getD_eq_getElem?_getD, List.getElem?_eq_getElem h]; rfl
theorem laidA_succ {l : List A32} {i : Nat} (h : i < l.length) : laidA (l.take (i + 1)) = laidA (l.take i) ++ (adAt l i).1 := by rw [laidA, take_one (adAt_some h), List.flatMap_append]; simp [laidA]
def adC (a : A32) : List Value := bys a.1
theorem adC_len (a : A32) : (adC a).length = 32 := by rw [adC, bys_length]; exact a.2
theorem Sl.adE {w : World} {g b m m' c : Nat} {l : List A32} (h : Sl w (.slice (some ⟨g, b, none⟩) m c) 32 m' (l.flatMap adC)) (i : Nat) (hi : i < l.length) {j : Nat} {u : Value} (hj : (bys (adAt l i).1)[j]? = some u) : w.cell? ⟨g, b + i * 32 + j, none⟩ = some u :=
  h.elem adC_len i j (by have := (List.getElem?_eq_some_iff.1 hj).1; rwa [bys_length, (adAt l i).2] at this) (adAt_some hi) hj
theorem Sl.adB {w : World} {g b m m' c : Nat} {l : List A32} (h : Sl w (.slice (some ⟨g, b, none⟩) m c) 32 m' (l.flatMap adC)) (i : Nat) (hi : i < l.length) (j : Nat) (hj : j < 32) : w.cell? ⟨g, b + i * 32 + j * 1, none⟩ = some (.int .u8 (((adAt l i).1.getD j 0).toNat : Int)) := by
  rw [Nat.mul_one]; exact h.adE i hi (bys_getD _ _ (by rw [(adAt l i).2]; exact hj))
theorem Sl.ads {w : World} {A : Option Addr} {n c : Nat} {l : List A32} (h : Sl w (.slice A n c) 32 n (l.flatMap adC)) : l.length = n := by
  have := h.len
  rw [flat_length adC_len] at this
  omega
theorem clSaid_length (name : ByteArray) (made : Int) (note : ByteArray) (l : List A32) : (clSaid name made note l).length = 16 + name.size + note.size + 32 * l.length := by
  simp only [clSaid, List.length_append, putL_length, laidA_length, List.length_cons, List.length_nil, Array.length_toList, ByteArray.size_data]; omega
/-- The address of a clip. -/
def clAdr (name : ByteArray) (made : Int) (note : ByteArray) (l : List A32) : List UInt8 := sumB (clSaid name made note l)
theorem clAdr_length (name : ByteArray) (made : Int) (note : ByteArray) (l : List A32) : (clAdr name made note l).length = 32 := sumB_length _
theorem bo_slnil {P : Program} {x y : Operand} {w : World} {T e : TypeId} {A : Option Addr} {n c : Nat} (hT : P.underlying T = some (.slice e)) : Bo P .eql T x y (.slice A n c) (.slice none 0 0) w (.bool A.isNone) :=
  bo_of (by simp [eqGuard, Sem.run]) (by simp only [binOp]; simp [run_equal_slice_nil w T e A n c hT])
theorem strs_one (l : List ByteArray) : ∀ u ∈ l.map Value.string, u.oneCell' = true := by
  intro u hu
  obtain ⟨x, _, rfl⟩ := List.mem_map.1 hu
  rfl
theorem sl_none {w : World} {sz m m' c : Nat} {L : List Value} (h : Sl w (.slice none m c) sz m' L) : L = [] := by
  rcases Nat.eq_zero_or_pos L.length with h0 | h0
  · exact List.length_eq_zero_iff.1 h0
  · obtain ⟨g, b, e⟩ := h.addr h0
    cases e
theorem clip_setH (c : Clp) (hv tv x : Value) : splice (clipC c hv tv) 36 [x] = clipC c x tv := by
  have := splice_one (bys c.addr.1 ++ [.int .i64 c.cls, .int .i64 c.made, .bool c.fired, .int .i64 c.event]) 36 hv x [.string c.note, tv] (by rw [List.length_append, cl_addr_len]; rfl)
  simpa [clipC] using this
theorem clip_setT (c : Clp) (hv tv x : Value) : splice (clipC c hv tv) 38 [x] = clipC c hv x := by
  have := splice_one (bys c.addr.1 ++ [.int .i64 c.cls, .int .i64 c.made, .bool c.fired, .int .i64 c.event, hv, .string c.note]) 38 tv x [] (by rw [List.length_append, cl_addr_len]; rfl)
  simpa [clipC] using this
theorem cut_cell {l : List UInt8} (hl : l.length = 256) {j : Nat} (hj : j < 256) : (bys l)[j]? = some (.int .u8 ((l.getD j 0).toNat : Int)) := bys_getD _ _ (by omega)
theorem byte_at1 {l : List UInt8} (hl : l.length = 256) {j : Nat} (hj : j < 256) : (bys l)[0 + j * 1]? = some (.int .u8 ((l.getD j 0).toNat : Int)) := by rw [Nat.zero_add, Nat.mul_one]; exact cut_cell hl hj
theorem cut_step {l : List UInt8} {p k : Nat} (h : p + k < l.length) : (l.drop p).take k ++ [l.getD (p + k) 0] = (l.drop p).take (k + 1) := by
  have e : l.getD (p + k) 0 = (l.drop p).getD k 0 := by simp [List.getD_eq_getElem?_getD, List.getElem?_drop]
  rw [e, List.take_succ_eq_append_getD (by rw [List.length_drop]; omega)]
/-- Bytes of a string: a new block, never written again. -/
theorem GL_strB {P : Program} {n : Nat} {ops : Array Oper} {f : Fm} {w w0 : World} {S : List Nat} {H : List Res} {K : Fm → World → Prop} {o : Oper} {rest : List Oper} {d : Nat} {x : Operand} {T U E : TypeId} {s : ByteArray} (hw : Wn n ops f o) (hd : o.dst = some d) (ho : o.op = .convert T U x) (hx : ev n f x = .string s) (hT : P.underlying T = some .string) (hU : P.underlying U = some (.slice E)) (hE : P.underlying E = some (.int .u8)) (hp : Hp w0 S w H) (hs : s.size ≤ 140737488355328)
    (h : ∀ g o' v w', Hp w0 S w' (.blk g o' :: H) → (∀ w2, (Res.blk g o').at_ w2 → Sl w2 v 1 s.size (bys s.data.toList)) → GL P n ops rest (upd f d v) w' K) : GL P n ops (o :: rest) f w K := by
  have hr := run_bytes_of_string (P := P) w T U E s hT hU hE
  have hk : ∀ o', Hp w [] (w.drew.alloc o') [.blk w.heap.size o'] := fun o' => ⟨⟨rfl, rfl, rfl, by simp, fun k hk _ => Below.heap_alloc w.drew _ k hk⟩, by
    intro r hr
    simp only [List.mem_singleton] at hr
    subst hr
    exact heap_alloc_new w.drew o', by simp [Res.foot], by simp⟩
  refine GL_new hw hd (by simp only [execOp, ho]; rw [hx]; simp [hr, Sem.run]; exact ⟨rfl, rfl⟩) (h _ _ _ _ (hp.comp (hk _)) fun w2 hb => ?_)
  have hge := grownCap_ge w s.size 0 E
  have hle := grownCap_le_maxLen w s.size 0 E (by simp only [maxLen]; omega)
  refine ⟨_, _, rfl, hge, hle, by rw [bys_length, Nat.mul_one]; rfl, .inr ⟨_, 0, rfl, fun j u hj => ?_⟩⟩
  have hg : w2.heap[w.heap.size]? = some _ := hb
  simp only [World.cell?, hg, Nat.zero_add]
  have hjl : j < s.data.size := by have := (List.getElem?_eq_some_iff.1 hj).1; rw [bys_length] at this; simpa using this
  rw [bytesRow, Array.getElem?_append_left (by simpa using hjl)]
  simpa [bys] using hj
/-- The names that an address says, one after the other. -/
def nmAt (name note : ByteArray) (i : Nat) : ByteArray := if i = 0 then name else note
def snB (name note : ByteArray) : Nat → List UInt8
  | 0 => [99, 108, 105, 112]
  | i + 1 => snB name note i ++ putL (nmAt name note i).size 2 ++ (nmAt name note i).data.toList
theorem nm_cell {name note : ByteArray} {i : Nat} (h : i < 2) : ([.string name, .string note] : List Value)[i]? = some (.string (nmAt name note i)) := by
  rcases i with _ | _ | i
  · rfl
  · rfl
  · omega
theorem nmAt_le {name note : ByteArray} (i : Nat) (h : name.size ≤ 65535 ∧ note.size ≤ 65535) : (nmAt name note i).size ≤ 65535 := by
  rw [nmAt]; split
  · exact h.1
  · exact h.2
theorem snB_le {name note : ByteArray} (h : name.size ≤ 65535 ∧ note.size ≤ 65535) : ∀ i, (snB name note i).length ≤ 4 + 65537 * i
  | 0 => by simp [snB]
  | i + 1 => by
    have h1 := snB_le h i
    have h2 := nmAt_le i h
    simp only [snB, List.length_append, putL_length, Array.length_toList, ByteArray.size_data]
    omega
theorem snB_said (name note : ByteArray) (made : Int) (l : List A32) : snB name note 2 ++ putL (u64N made) 8 ++ laidA l = clSaid name made note l := by
  simp [snB, clSaid, nmAt, List.append_assoc]
theorem find_none {α : Type} {l : List α} {q : α → Bool} (h : l.find? q = none) : ∀ x ∈ l, q x = false := fun x hx => by
  have := List.find?_eq_none.1 h x hx
  simpa using this
theorem holdsC_zero {l : List ByteArray} : holdsC l = 0 ↔ l.length ≤ 4 ∧ ∀ j, j < l.length → hoB l j = true := by
  constructor
  · intro h
    by_cases h4 : 4 < l.length
    · rw [ho_long h4] at h; cases h
    refine ⟨by omega, ?_⟩
    cases hf : (List.range l.length).find? (fun i => !hoB l i) with
    | none =>
      intro j hj
      have := find_none hf j (List.mem_range.2 hj)
      simpa using this
    | some i =>
      rw [holdsC, if_neg h4, hf] at h
      by_cases hn : nameC (strAt l i) = 0
      · simp only [hn, if_true] at h; cases h
      · simp only [hn, if_false] at h
  · rintro ⟨h4, h⟩
    exact holds_ok (by omega) h
theorem textsC_zero {l : List Int} {n : Int} : textsC l n = 0 ↔ (1 ≤ l.length ∧ l.length ≤ 4) ∧ ∀ j, j < l.length → txB l n j = true := by
  constructor
  · intro h
    by_cases h4 : l.length < 1 ∨ 4 < l.length
    · rw [texts_long h4] at h; cases h
    refine ⟨by omega, ?_⟩
    cases hf : (List.range l.length).find? (fun i => !txB l n i) with
    | none =>
      intro j hj
      have := find_none hf j (List.mem_range.2 hj)
      simpa using this
    | some i =>
      rw [textsC, if_neg h4, hf] at h
      by_cases hn : 0 ≤ intAt l i ∧ intAt l i < n
      · simp only [hn, and_self, if_true] at h; cases h
      · simp only [hn, if_false] at h; cases h
  · rintro ⟨h4, h⟩
    exact texts_ok (by omega) h
theorem clpC_zero {c : Clp} {m k : Int} : clpC c m k = 0 ↔ (0 ≤ c.cls ∧ c.cls < m ∧ c.cls < 8) ∧ clpT c ∧ c.note.size ≤ 31 ∧ holdsC c.holds = 0 ∧ textsC c.texts (min k 40) = 0 := by
  constructor
  · intro h
    by_cases h1 : c.cls < 0 ∨ m ≤ c.cls ∨ 8 ≤ c.cls
    · rw [clpC_1 h1] at h; cases h
    by_cases h2 : clpT c
    · by_cases h3 : 31 < c.note.size
      · rw [clpC_3 h1 h2 h3] at h; cases h
      by_cases h4 : holdsC c.holds = 0
      · rw [clpC_5 h1 h2 h3 h4] at h
        exact ⟨by omega, h2, by omega, h4, h⟩
      · rw [clpC_4 h1 h2 h3 h4] at h
        exact absurd h h4
    · rw [clpC_2 h1 h2] at h; cases h
  · rintro ⟨h1, h2, h3, h4, h5⟩
    rw [clpC_5 (by omega) h2 (by omega) h4, h5]
theorem clpC_lens {c : Clp} {m k : Int} (h : clpC c m k = 0) : c.note.size ≤ 31 ∧ c.holds.length ≤ 4 ∧ 1 ≤ c.texts.length ∧ c.texts.length ≤ 4 := by
  obtain ⟨_, _, h3, h4, h5⟩ := clpC_zero.1 h
  have := (holdsC_zero.1 h4).1
  have := (textsC_zero.1 h5).1
  omega
def firB (c : Clp) : UInt8 := if c.fired = true then 1 else 0
theorem firB_t {c : Clp} (h : c.fired = true) : firB c = 1 := by rw [firB, if_pos h]
theorem firB_f {c : Clp} (h : c.fired = false) : firB c = 0 := by rw [firB, if_neg (by rw [h]; decide)]
def holdB (l : List ByteArray) : List UInt8 := l.flatMap fun s => padL s.data.toList 16
theorem holdB_succ {l : List ByteArray} {i : Nat} (h : i < l.length) : holdB (l.take (i + 1)) = holdB (l.take i) ++ padL (strAt l i).data.toList 16 := by
  rw [holdB, take_one (strAt_some h), List.flatMap_append]; simp [holdB]
def textB (l : List Int) : List UInt8 := l.map kB
theorem textB_succ {l : List Int} {i : Nat} (h : i < l.length) : textB (l.take (i + 1)) = textB (l.take i) ++ [kB (intAt l i)] := by
  rw [textB, take_one (intAt_some h), List.map_append]; rfl
theorem holdB_le : ∀ l : List ByteArray, (holdB l).length ≤ 16 * l.length
  | [] => Nat.zero_le _
  | s :: l => by
    have h1 := holdB_le l
    have h2 := pad_le s.data.toList 16
    simp only [holdB] at h1
    rw [holdB, List.flatMap_cons, List.length_append, List.length_cons]
    omega
def clpX (c : Clp) : List UInt8 := [67, 76, 73, 80] ++ c.addr.1 ++ [kB c.cls] ++ putL (u64N c.made) 6 ++ [firB c] ++ putL (u64N c.event) 6 ++ padL c.note.data.toList 32 ++ [kB (c.holds.length : Int)]
def clpB (c : Clp) : List UInt8 := clpX c ++ holdB c.holds ++ [kB (c.texts.length : Int)] ++ textB c.texts
theorem clpB_le {c : Clp} {m k : Int} (h : clpC c m k = 0) : (clpB c).length ≤ 252 := by
  have h1 := clpC_lens h
  have h2 := pad_le c.note.data.toList 32
  have h3 := holdB_le c.holds
  have h4 : (textB c.texts).length = c.texts.length := by rw [textB, List.length_map]
  have h5 := c.addr.2
  simp only [clpB, clpX, List.length_append, putL_length, h4, h5, List.length_cons, List.length_nil]
  omega
def secC (c : Clp) : List UInt8 := if clpC c 8 40 = 0 then secL (clpB c) else List.replicate 256 0
theorem secC_yes {c : Clp} (h : clpC c 8 40 = 0) : secC c = secL (clpB c) := by rw [secC, if_pos h]
theorem secC_no {c : Clp} (h : ¬ clpC c 8 40 = 0) : secC c = List.replicate 256 0 := by rw [secC, if_neg h]
theorem secC_length (c : Clp) : (secC c).length = 256 := by unfold secC; split; exact secL_length _; exact List.length_replicate
theorem secC_made {c : Clp} (h : clpC c 8 40 = 0) : wholeL (sealL ((wholeL (clpB c)).take 252)) = secC c := by
  rw [secC_yes h]; exact seal_whole (clpB_le h)
end Go.Mo
