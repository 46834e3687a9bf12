/- Clips: what is wrong with them, their bytes, their addresses: plain laws. -/
import Derived.Test.YtpagpmioopaciaaQAudS
import Derived.Laws.Cover3
import Derived.Laws.IdiomStrings
set_option linter.unusedVariables false
set_option linter.unusedSimpArgs false
namespace Go.Mo
open Go.RowKit Go.Lib
structure Clp where
  addr : A32
  cls : Int
  made : Int
  fired : Bool
  event : Int
  holds : List ByteArray
  note : ByteArray
  texts : List Int
/-- The cells of a clip; the slices of its holds and its texts. -/
def clipC (c : Clp) (hv tv : Value) : List Value := bys c.addr.1 ++ [.int .i64 c.cls, .int .i64 c.made, .bool c.fired, .int .i64 c.event, hv, .string c.note, tv]
theorem cl_addr_len (c : Clp) : (bys c.addr.1).length = 32 := by rw [bys_length]; exact c.addr.2
theorem clipC_len (c : Clp) (hv tv : Value) : (clipC c hv tv).length = 39 := by rw [clipC, List.length_append, cl_addr_len]; rfl
theorem clip_at (c : Clp) (hv tv : Value) (k : Nat) : (clipC c hv tv)[32 + k]? = ([.int .i64 c.cls, .int .i64 c.made, .bool c.fired, .int .i64 c.event, hv, .string c.note, tv] : List Value)[k]? := by
  rw [clipC, List.getElem?_append_right (by rw [cl_addr_len]; omega), cl_addr_len, Nat.add_sub_cancel_left]
theorem clip_texts (c : Clp) (hv tv : Value) : (clipC c hv tv)[38]? = some tv := clip_at c hv tv 6
/-- Names, whole numbers, by their places. -/
def strAt (l : List ByteArray) (i : Nat) : ByteArray := l.getD i ⟨#[]⟩
def intAt (l : List Int) (i : Nat) : Int := l.getD i 0
instance decMemB (x : ByteArray) : (l : List ByteArray) → Decidable (x ∈ l)
  | [] => .isFalse (by simp)
  | y :: l => have := decMemB x l; decidable_of_iff (x = y ∨ x ∈ l) List.mem_cons.symm
def hoB (l : List ByteArray) (i : Nat) : Bool := decide (nameC (strAt l i) = 0 ∧ ¬ strAt l i ∈ l.take i)
def holdsC (l : List ByteArray) : Int := if 4 < l.length then 7 else match (List.range l.length).find? (fun i => !hoB l i) with
  | some i => if nameC (strAt l i) = 0 then 9 else nameC (strAt l i)
  | none => 0
def txB (l : List Int) (n : Int) (i : Nat) : Bool := decide ((0 ≤ intAt l i ∧ intAt l i < n) ∧ ¬ intAt l i ∈ l.take i)
def textsC (l : List Int) (n : Int) : Int := if l.length < 1 ∨ 4 < l.length then 1 else match (List.range l.length).find? (fun i => !txB l n i) with
  | some i => if 0 ≤ intAt l i ∧ intAt l i < n then 9 else 2
  | none => 0
def clpT (c : Clp) : Prop := 0 ≤ c.made ∧ c.made ≤ 1099511627776 ∧ 0 ≤ c.event ∧ c.event ≤ 1099511627776 ∧ (c.fired = true ∨ c.event = 0)
instance (c : Clp) : Decidable (clpT c) := by unfold clpT; infer_instance
def clpC (c : Clp) (m k : Int) : Int := if c.cls < 0 ∨ m ≤ c.cls ∨ 8 ≤ c.cls then 13 else if clpT c then (if 31 < c.note.size then 15 else if holdsC c.holds = 0 then textsC c.texts (min k 40) else holdsC c.holds) else 2
def adAt (l : List A32) (i : Nat) : A32 := l.getD i a32Z
theorem adAt_some {l : List A32} {i : Nat} (h : i < l.length) : l[i]? = some (adAt l i) := by rw [adAt, List.getD_eq_getElem?_getD, List.getElem?_eq_getElem h]; rfl
def adC (a : A32) : List Value := bys a.1
theorem adC_len (a : A32) : (adC a).length = 32 := by rw [adC, bys_length]; exact a.2
end Go.Mo
