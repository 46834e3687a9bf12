/- Clips: what is wrong with them, their bytes, their addresses: plain laws. -/
import Derived.Test.YtpagpmioopaciaaGAudS
import Derived.Laws.Cover3
import Derived.Laws.IdiomStrings
set_option linter.unusedVariables false
set_option linter.unusedSimpArgs false
namespace Go.Mo
open Go.RowKit Go.Lib
structure Clp where
  addr : A32
  cls : Int
  made : Int
  fired : Bool
  event : Int
  holds : List ByteArray
  note : ByteArray
  texts : List Int
/-- Names, whole numbers, by their places. -/
def strAt (l : List ByteArray) (i : Nat) : ByteArray := l.getD i ⟨#[]⟩
theorem strAt_some {l : List ByteArray} {i : Nat} (h : i < l.length) : l[i]? = some (strAt l i) := by rw [strAt, List.getD_eq_getElem?_getD, List.getElem?_eq_getElem h]; rfl
theorem strAt_cell {l : List ByteArray} {i : Nat} (h : i < l.length) : (l.map Value.string)[i * 1]? = some (.string (strAt l i)) := by rw [Nat.mul_one, List.getElem?_map, strAt_some h]; rfl
def intAt (l : List Int) (i : Nat) : Int := l.getD i 0
theorem intAt_some {l : List Int} {i : Nat} (h : i < l.length) : l[i]? = some (intAt l i) := by rw [intAt, List.getD_eq_getElem?_getD, List.getElem?_eq_getElem h]; rfl
theorem intAt_cell {l : List Int} {i : Nat} (h : i < l.length) : (l.map (Value.int .i64))[i * 1]? = some (.int .i64 (intAt l i)) := by rw [Nat.mul_one, List.getElem?_map, intAt_some h]; rfl
theorem mem_at {α : Type} {l : List α} {i : Nat} {x : α} (h : l[i]? = some x) : x ∈ l := List.mem_of_getElem? h
theorem not_mem_at {α : Type} {l : List α} {x : α} (h : ∀ (j : Nat) (y : α), l[j]? = some y → ¬ y = x) : ¬ x ∈ l := fun hx => by
  obtain ⟨j, hj⟩ := List.getElem?_of_mem hx
  exact h j x hj rfl
theorem no_take_str {l : List ByteArray} {i : Nat} {x : ByteArray} (h : ∀ j, j < i → j < l.length → ¬ strAt l j = x) : ¬ x ∈ l.take i := not_mem_at fun j y hj => by
  rw [List.getElem?_take] at hj
  split at hj
  · rename_i hji
    have hl := (List.getElem?_eq_some_iff.1 hj).1
    rw [strAt_some hl] at hj
    rw [← Option.some.inj hj]; exact h j hji hl
  · cases hj
instance decMemB (x : ByteArray) : (l : List ByteArray) → Decidable (x ∈ l)
  | [] => .isFalse (by simp)
  | y :: l => have := decMemB x l; decidable_of_iff (x = y ∨ x ∈ l) List.mem_cons.symm
def clpT (c : Clp) : Prop := 0 ≤ c.made ∧ c.made ≤ 1099511627776 ∧ 0 ≤ c.event ∧ c.event ≤ 1099511627776 ∧ (c.fired = true ∨ c.event = 0)
instance (c : Clp) : Decidable (clpT c) := by unfold clpT; infer_instance
theorem bo_slnil {P : Program} {x y : Operand} {w : World} {T e : TypeId} {A : Option Addr} {n c : Nat} (hT : P.underlying T = some (.slice e)) : Bo P .eql T x y (.slice A n c) (.slice none 0 0) w (.bool A.isNone) :=
  bo_of (by simp [eqGuard, Sem.run]) (by simp only [binOp]; simp [run_equal_slice_nil w T e A n c hT])
theorem strs_one (l : List ByteArray) : ∀ u ∈ l.map Value.string, u.oneCell' = true := by
  intro u hu
  obtain ⟨x, _, rfl⟩ := List.mem_map.1 hu
  rfl
theorem sl_none {w : World} {sz m m' c : Nat} {L : List Value} (h : Sl w (.slice none m c) sz m' L) : L = [] := by
  rcases Nat.eq_zero_or_pos L.length with h0 | h0
  · exact List.length_eq_zero_iff.1 h0
  · obtain ⟨g, b, e⟩ := h.addr h0
    cases e
/-- Bytes of a string: a new block, never written again. -/
theorem GL_strB {P : Program} {n : Nat} {ops : Array Oper} {f : Fm} {w w0 : World} {S : List Nat} {H : List Res} {K : Fm → World → Prop} {o : Oper} {rest : List Oper} {d : Nat} {x : Operand} {T U E : TypeId} {s : ByteArray} (hw : Wn n ops f o) (hd : o.dst = some d) (ho : o.op = .convert T U x) (hx : ev n f x = .string s) (hT : P.underlying T = some .string) (hU : P.underlying U = some (.slice E)) (hE : P.underlying E = some (.int .u8)) (hp : Hp w0 S w H) (hs : s.size ≤ 140737488355328)
    (h : ∀ g o' v w', Hp w0 S w' (.blk g o' :: H) → (∀ w2, (Res.blk g o').at_ w2 → Sl w2 v 1 s.size (bys s.data.toList)) → GL P n ops rest (upd f d v) w' K) : GL P n ops (o :: rest) f w K := by
  have hr := run_bytes_of_string (P := P) w T U E s hT hU hE
  have hk : ∀ o', Hp w [] (w.drew.alloc o') [.blk w.heap.size o'] := fun o' => ⟨⟨rfl, rfl, rfl, by simp, fun k hk _ => Below.heap_alloc w.drew _ k hk⟩, by
    intro r hr
    simp only [List.mem_singleton] at hr
    subst hr
    exact heap_alloc_new w.drew o', by simp [Res.foot], by simp⟩
  refine GL_new hw hd (by simp only [execOp, ho]; rw [hx]; simp [hr, Sem.run]; exact ⟨rfl, rfl⟩) (h _ _ _ _ (hp.comp (hk _)) fun w2 hb => ?_)
  have hge := grownCap_ge w s.size 0 E
  have hle := grownCap_le_maxLen w s.size 0 E (by simp only [maxLen]; omega)
  refine ⟨_, _, rfl, hge, hle, by rw [bys_length, Nat.mul_one]; rfl, .inr ⟨_, 0, rfl, fun j u hj => ?_⟩⟩
  have hg : w2.heap[w.heap.size]? = some _ := hb
  simp only [World.cell?, hg, Nat.zero_add]
  have hjl : j < s.data.size := by have := (List.getElem?_eq_some_iff.1 hj).1; rw [bys_length] at this; simpa using this
  rw [bytesRow, Array.getElem?_append_left (by simpa using hjl)]
  simpa [bys] using hj
end Go.Mo
