/- Clips: what is wrong with them, their bytes, their addresses: plain laws. -/
import Derived.Test.YtpagpmioopaciaaGreatPAudS
import Derived.Laws.Cover3
import Derived.Laws.IdiomStrings
set_option linter.unusedVariables false
set_option linter.unusedSimpArgs false
namespace Go.Mo
open Go.RowKit Go.Lib
structure Clp where
  addr : A32
  cls : Int
  made : Int
  fired : Bool
  event : Int
  holds : List ByteArray
  note : ByteArray
  texts : List Int
/-- The cells of a clip; the slices of its holds and its texts. -/
def clipC (c : Clp) (hv tv : Value) : List Value := bys c.addr.1 ++ [.int .i64 c.cls, .int .i64 c.made, .bool c.fired, .int .i64 c.event, hv, .string c.note, tv]
/-- Names, whole numbers, by their places. -/
def strAt (l : List ByteArray) (i : Nat) : ByteArray := l.getD i ⟨#[]⟩
def intAt (l : List Int) (i : Nat) : Int := l.getD i 0
instance decMemB (x : ByteArray) : (l : List ByteArray) → Decidable (x ∈ l)
  | [] => .isFalse (by simp)
  | y :: l => have := decMemB x l; decidable_of_iff (x = y ∨ x ∈ l) List.mem_cons.symm
def hoB (l : List ByteArray) (i : Nat) : Bool := decide (nameC (strAt l i) = 0 ∧ ¬ strAt l i ∈ l.take i)
def holdsC (l : List ByteArray) : Int := if 4 < l.length then 7 else match (List.range l.length).find? (fun i => !hoB l i) with
  | some i => if nameC (strAt l i) = 0 then 9 else nameC (strAt l i)
  | none => 0
def txB (l : List Int) (n : Int) (i : Nat) : Bool := decide ((0 ≤ intAt l i ∧ intAt l i < n) ∧ ¬ intAt l i ∈ l.take i)
def textsC (l : List Int) (n : Int) : Int := if l.length < 1 ∨ 4 < l.length then 1 else match (List.range l.length).find? (fun i => !txB l n i) with
  | some i => if 0 ≤ intAt l i ∧ intAt l i < n then 9 else 2
  | none => 0
def clpT (c : Clp) : Prop := 0 ≤ c.made ∧ c.made ≤ 1099511627776 ∧ 0 ≤ c.event ∧ c.event ≤ 1099511627776 ∧ (c.fired = true ∨ c.event = 0)
instance (c : Clp) : Decidable (clpT c) := by unfold clpT; infer_instance
def clpC (c : Clp) (m k : Int) : Int := if c.cls < 0 ∨ m ≤ c.cls ∨ 8 ≤ c.cls then 13 else if clpT c then (if 31 < c.note.size then 15 else if holdsC c.holds = 0 then textsC c.texts (min k 40) else holdsC c.holds) else 2
def laidA (l : List A32) : List UInt8 := l.flatMap fun a => a.1
def clSaid (name : ByteArray) (made : Int) (note : ByteArray) (l : List A32) : List UInt8 := [99, 108, 105, 112] ++ (putL name.size 2 ++ (name.data.toList ++ (putL note.size 2 ++ (note.data.toList ++ (putL (u64N made) 8 ++ laidA l)))))
theorem laidA_length : ∀ l : List A32, (laidA l).length = 32 * l.length
  | [] => rfl
  | a :: l => by
    have := laidA_length l
    simp only [laidA] at this
    rw [laidA, List.flatMap_cons, List.length_append, a.2, this, List.length_cons]; omega
def adAt (l : List A32) (i : Nat) : A32 := l.getD i a32Z
theorem adAt_some {l : List A32} {i : Nat} (h : i < l.length) : l[i]? = some (adAt l i) := by rw [adAt, List.getD_eq_getElem?_getD, List.getElem?_eq_getElem h]; rfl
theorem laidA_succ {l : List A32} {i : Nat} (h : i < l.length) : laidA (l.take (i + 1)) = laidA (l.take i) ++ (adAt l i).1 := by rw [laidA, take_one (adAt_some h), List.flatMap_append]; simp [laidA]
def adC (a : A32) : List Value := bys a.1
theorem adC_len (a : A32) : (adC a).length = 32 := by rw [adC, bys_length]; exact a.2
theorem Sl.adE {w : World} {g b m m' c : Nat} {l : List A32} (h : Sl w (.slice (some ⟨g, b, none⟩) m c) 32 m' (l.flatMap adC)) (i : Nat) (hi : i < l.length) {j : Nat} {u : Value} (hj : (bys (adAt l i).1)[j]? = some u) : w.cell? ⟨g, b + i * 32 + j, none⟩ = some u :=
  h.elem adC_len i j (by have := (List.getElem?_eq_some_iff.1 hj).1; rwa [bys_length, (adAt l i).2] at this) (adAt_some hi) hj
theorem Sl.adB {w : World} {g b m m' c : Nat} {l : List A32} (h : Sl w (.slice (some ⟨g, b, none⟩) m c) 32 m' (l.flatMap adC)) (i : Nat) (hi : i < l.length) (j : Nat) (hj : j < 32) : w.cell? ⟨g, b + i * 32 + j * 1, none⟩ = some (.int .u8 (((adAt l i).1.getD j 0).toNat : Int)) := by
  rw [Nat.mul_one]; exact h.adE i hi (bys_getD _ _ (by rw [(adAt l i).2]; exact hj))
theorem Sl.ads {w : World} {A : Option Addr} {n c : Nat} {l : List A32} (h : Sl w (.slice A n c) 32 n (l.flatMap adC)) : l.length = n := by
  have := h.len
  rw [flat_length adC_len] at this
  omega
theorem clSaid_length (name : ByteArray) (made : Int) (note : ByteArray) (l : List A32) : (clSaid name made note l).length = 16 + name.size + note.size + 32 * l.length := by
  simp only [clSaid, List.length_append, putL_length, laidA_length, List.length_cons, List.length_nil, Array.length_toList, ByteArray.size_data]; omega
/-- The address of a clip. -/
def clAdr (name : ByteArray) (made : Int) (note : ByteArray) (l : List A32) : List UInt8 := sumB (clSaid name made note l)
theorem clAdr_length (name : ByteArray) (made : Int) (note : ByteArray) (l : List A32) : (clAdr name made note l).length = 32 := sumB_length _
/-- Bytes of a string: a new block, never written again. -/
theorem GL_strB {P : Program} {n : Nat} {ops : Array Oper} {f : Fm} {w w0 : World} {S : List Nat} {H : List Res} {K : KP} {o : Oper} {rest : List Oper} {d : Nat} {x : Operand} {T U E : TypeId} {s : ByteArray} (hw : Wn n ops f o) (hd : o.dst = some d) (ho : o.op = .convert T U x) (hx : ev n f x = .string s) (hT : P.underlying T = some .string) (hU : P.underlying U = some (.slice E)) (hE : P.underlying E = some (.int .u8)) (hp : Hp w0 S w H) (hs : s.size ≤ 140737488355328)
    (h : ∀ g o' v w', Hp w0 S w' (.blk g o' :: H) → (∀ w2, (Res.blk g o').at_ w2 → Sl w2 v 1 s.size (bys s.data.toList)) → GL P n ops rest (upd f d v) w' K) : GL P n ops (o :: rest) f w K := by
  have hr := run_bytes_of_string (P := P) w T U E s hT hU hE
  have hk : ∀ o', Hp w [] (w.drew.alloc o') [.blk w.heap.size o'] := fun o' => ⟨⟨rfl, rfl, rfl, by simp, fun k hk _ => Below.heap_alloc w.drew _ k hk⟩, by
    intro r hr
    simp only [List.mem_singleton] at hr
    subst hr
    exact heap_alloc_new w.drew o', by simp [Res.foot], by simp⟩
  refine GL_new hw hd (by simp only [execOp, ho]; rw [hx]; simp [hr, Sem.run]; exact ⟨rfl, rfl⟩) (h _ _ _ _ (hp.comp (hk _)) fun w2 hb => ?_)
  have hge := grownCap_ge w s.size 0 E
  have hle := grownCap_le_maxLen w s.size 0 E (by simp only [maxLen]; omega)
  refine ⟨_, _, rfl, hge, hle, by rw [bys_length, Nat.mul_one]; rfl, .inr ⟨_, 0, rfl, fun j u hj => ?_⟩⟩
  have hg : w2.heap[w.heap.size]? = some _ := hb
  simp only [World.cell?, hg, Nat.zero_add]
  have hjl : j < s.data.size := by have := (List.getElem?_eq_some_iff.1 hj).1; rw [bys_length] at this; simpa using this
  rw [bytesRow, Array.getElem?_append_left (by simpa using hjl)]
  simpa [bys] using hj
/-- The names that an address says, one after the other. -/
def nmAt (name note : ByteArray) (i : Nat) : ByteArray := if i = 0 then name else note
def snB (name note : ByteArray) : Nat → List UInt8
  | 0 => [99, 108, 105, 112]
  | i + 1 => snB name note i ++ putL (nmAt name note i).size 2 ++ (nmAt name note i).data.toList
theorem nm_cell {name note : ByteArray} {i : Nat} (h : i < 2) : ([.string name, .string note] : List Value)[i]? = some (.string (nmAt name note i)) := by
  rcases i with _ | _ | i
  · rfl
  · rfl
  · omega
theorem nmAt_le {name note : ByteArray} (i : Nat) (h : name.size ≤ 65535 ∧ note.size ≤ 65535) : (nmAt name note i).size ≤ 65535 := by
  rw [nmAt]; split
  · exact h.1
  · exact h.2
theorem snB_le {name note : ByteArray} (h : name.size ≤ 65535 ∧ note.size ≤ 65535) : ∀ i, (snB name note i).length ≤ 4 + 65537 * i
  | 0 => by simp [snB]
  | i + 1 => by
    have h1 := snB_le h i
    have h2 := nmAt_le i h
    simp only [snB, List.length_append, putL_length, Array.length_toList, ByteArray.size_data]
    omega
theorem snB_said (name note : ByteArray) (made : Int) (l : List A32) : snB name note 2 ++ putL (u64N made) 8 ++ laidA l = clSaid name made note l := by
  simp [snB, clSaid, nmAt, List.append_assoc]
end Go.Mo
set_option linter.unusedVariables false
set_option linter.unusedSimpArgs false
namespace Go.Mo
open Go.RowKit
def cntC (n : Nat) : Nat := (n + 255) / 256
def chA (l : List UInt8) (i : Nat) : List UInt8 := (l.drop (256 * i)).take 256
def chI (l : List UInt8) : List (Nat × List UInt8) := (List.range (cntC l.length)).map fun i => (i, chA l i)
/-- A chunk as it is handed over: its place, its bytes, the slice. -/
abbrev CE := Nat × List UInt8 × Value
def ceN (x : CE) : Nat × List UInt8 := (x.1, x.2.1)
def okC (l : List UInt8) (xs : List CE) : Prop := xs.map ceN = chI l
theorem chI_len (l : List UInt8) : (chI l).length = cntC l.length := by simp [chI]
theorem chI_at {l : List UInt8} {i : Nat} (h : 256 * i < l.length) : (chI l)[i]? = some (i, chA l i) := by
  have hi : i < cntC l.length := by unfold cntC; omega
  unfold chI
  rw [List.getElem?_map, List.getElem?_range hi]; rfl
theorem okC_mid {l : List UInt8} {q : List CE} {i : Nat} (hq : q.map ceN = (chI l).take i) (h : 256 * i < l.length) (v : Value) : okC l (q ++ (i, chA l i, v) :: ((chI l).drop (i + 1)).map fun y => (y.1, y.2, .slice none 0 0)) := by
  unfold okC
  rw [List.map_append, List.map_cons, hq, List.map_map]
  have e : (ceN ∘ fun y : Nat × List UInt8 => ((y.1, y.2, Value.slice none 0 0) : CE)) = id := rfl
  rw [e, List.map_id]
  have h2 := chI_at h
  obtain ⟨hl, h3⟩ := List.getElem?_eq_some_iff.1 h2
  have h4 := List.take_append_drop i (chI l)
  rw [List.drop_eq_getElem_cons hl, h3] at h4
  exact h4
theorem okC_next {l : List UInt8} {q : List CE} {i : Nat} (hq : q.map ceN = (chI l).take i) (h : 256 * i < l.length) (v : Value) : (q ++ [(i, chA l i, v)]).map ceN = (chI l).take (i + 1) := by
  rw [List.map_append, hq, List.take_add_one, chI_at h]; rfl
theorem okC_end {l : List UInt8} {q : List CE} {i : Nat} (hq : q.map ceN = (chI l).take i) (h : l.length ≤ 256 * i) : okC l q := by
  unfold okC
  rw [hq, List.take_of_length_le (by rw [chI_len]; unfold cntC; omega)]
theorem okC_len {l : List UInt8} {q s : List CE} {x : CE} (h : okC l (q ++ x :: s)) : q.length < cntC l.length := by
  have := congrArg List.length h
  rw [List.length_map, chI_len, List.length_append, List.length_cons] at this
  omega
theorem chA_len (l : List UInt8) (i : Nat) : (chA l i).length ≤ 256 := by unfold chA; rw [List.length_take]; omega
theorem okC_le {l : List UInt8} {q s : List CE} {x : CE} (h : okC l (q ++ x :: s)) : x.2.1.length ≤ 256 := by
  have hm : ceN x ∈ chI l := by rw [← h]; exact List.mem_map_of_mem (by simp)
  obtain ⟨i, _, e⟩ := List.mem_map.1 hm
  have := chA_len l i
  rw [show x.2.1 = (ceN x).2 from rfl, ← e]; exact this
def chunkW : List UInt8 := [99, 104, 117, 110, 107]
def chSum (c : List UInt8) : A32 := ⟨sumB (chunkW ++ c), sumB_length _⟩
def adrsC (l : List UInt8) : List A32 := (chI l).map fun y => chSum y.2
def adrsQ (q : List CE) : List A32 := q.map fun x => chSum x.2.1
theorem adrsQ_all {l : List UInt8} {q : List CE} (h : okC l q) : adrsQ q = adrsC l := by
  unfold adrsQ adrsC
  rw [← h, List.map_map]; rfl
theorem adrsQ_snoc (q : List CE) (x : CE) : adrsQ (q ++ [x]) = adrsQ q ++ [chSum x.2.1] := by unfold adrsQ; rw [List.map_append]; rfl
theorem adrsQ_len (q : List CE) : (adrsQ q).length = q.length := by unfold adrsQ; rw [List.length_map]
theorem adrsC_len (l : List UInt8) : (adrsC l).length = cntC l.length := by unfold adrsC; rw [List.length_map, chI_len]
theorem adcR_snoc (T : Nat) (v : Value) (l : List A32) (x : A32) : Res.row T 32 v (l.length + 1) (l.flatMap adC ++ bys x.1) = .row T 32 v (l ++ [x]).length ((l ++ [x]).flatMap adC) := by simp [adC]
theorem left_next (l : List UInt8) (i : Nat) {k : Nat} (hk : k = min (l.length - 256 * i) 256) (h : 256 * i < l.length) : ((l.drop (256 * i)).drop k).take (l.length - 256 * i - k) = l.drop (256 * (i + 1)) := by
  rw [List.drop_drop]
  by_cases h2 : l.length - 256 * i ≤ 256
  · rw [List.drop_of_length_le (by omega), List.drop_of_length_le (i := 256 * (i + 1)) (by omega), List.take_nil]
  · rw [show 256 * i + k = 256 * (i + 1) by omega, List.take_of_length_le (by rw [List.length_drop]; omega)]
theorem take_min (l : List UInt8) (i : Nat) {k : Nat} (hk : k = min (l.length - 256 * i) 256) : (l.drop (256 * i)).take k = chA l i := by
  unfold chA
  by_cases h2 : l.length - 256 * i ≤ 256
  · rw [List.take_of_length_le (by rw [List.length_drop]; omega), List.take_of_length_le (by rw [List.length_drop]; omega)]
  · rw [show k = 256 by omega]
theorem chA_min (l : List UInt8) (i : Nat) {k : Nat} (hk : k = min (l.length - 256 * i) 256) : (chA l i).length = k := by
  unfold chA; rw [List.length_take, List.length_drop]; omega
end Go.Mo
