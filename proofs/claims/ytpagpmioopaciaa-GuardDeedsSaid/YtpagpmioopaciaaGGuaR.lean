/- The reference's guard: roles, who has which. -/
import Derived.Test.YtpagpmioopaciaaGGuaS
import Derived.Test.YtpagpmioopaciaaGMore
set_option linter.unusedVariables false
set_option linter.unusedSimpArgs false
namespace Go.Mo
open Go.RowKit
/-- A role of the reference: its name, the slice of its kinds, the kinds. -/
abbrev RO := ByteArray × Value × List Int
abbrev HA := ByteArray × ByteArray
def roC (x : RO) : List Value := [.string x.1, x.2.1]
def haC (x : HA) : List Value := [.string x.1, .string x.2]
instance : Inhabited RO := ⟨(⟨#[]⟩, .slice none 0 0, [])⟩
def roAt (l : List RO) (i : Nat) : RO := l.getD i default
def haAt (l : List HA) (i : Nat) : HA := l.getD i (⟨#[]⟩, ⟨#[]⟩)
theorem roAt_some {l : List RO} {i : Nat} (h : i < l.length) : l[i]? = some (roAt l i) := by rw [roAt, List.getD_eq_getElem?_getD, List.getElem?_eq_getElem h]; rfl
theorem haAt_some {l : List HA} {i : Nat} (h : i < l.length) : l[i]? = some (haAt l i) := by rw [haAt, List.getD_eq_getElem?_getD, List.getElem?_eq_getElem h]; rfl
theorem roC_len (x : RO) : (roC x).length = 2 := rfl
theorem haC_len (x : HA) : (haC x).length = 2 := rfl
theorem ro_cell {l : List RO} {i j : Nat} {u : Value} (hi : i < l.length) (hu : (roC (roAt l i))[j]? = some u) (hj : j < 2) : (l.flatMap roC)[i * 2 + j]? = some u := (flat_get roC_len l i j (roAt l i) hj (roAt_some hi)).trans hu
theorem ha_cell {l : List HA} {i j : Nat} {u : Value} (hi : i < l.length) (hu : (haC (haAt l i))[j]? = some u) (hj : j < 2) : (l.flatMap haC)[i * 2 + j]? = some u := (flat_get haC_len l i j (haAt l i) hj (haAt_some hi)).trans hu
/-- Where a role stands; below nought: it does not. -/
def roF (l : List RO) (s : ByteArray) : Int := match l.findIdx? (fun x => decide (x.1 = s)) with
  | some i => (i : Int)
  | none => -1
theorem roF_at {l : List RO} {s : ByteArray} {i : Nat} (hi : i < l.length) (h : (roAt l i).1 = s) (hno : ∀ j, j < i → ¬ (roAt l j).1 = s) : roF l s = (i : Int) := by
  have e : l.findIdx? (fun x => decide (x.1 = s)) = some i := by
    rw [List.findIdx?_eq_some_iff_getElem]
    have e1 := roAt_some hi
    rw [List.getElem?_eq_getElem hi] at e1
    refine ⟨hi, by rw [Option.some.inj e1]; exact decide_eq_true h, fun j hj => ?_⟩
    have e2 := roAt_some (l := l) (i := j) (by omega)
    rw [List.getElem?_eq_getElem (by omega)] at e2
    rw [Option.some.inj e2]
    simpa using hno j hj
  rw [roF, e]
theorem roF_no {l : List RO} {s : ByteArray} (hno : ∀ j, j < l.length → ¬ (roAt l j).1 = s) : roF l s = -1 := by
  have e : l.findIdx? (fun x => decide (x.1 = s)) = none := by
    rw [List.findIdx?_eq_none_iff]
    intro x hx
    obtain ⟨j, hj⟩ := List.getElem?_of_mem hx
    have hl := (List.getElem?_eq_some_iff.1 hj).1
    rw [roAt_some hl] at hj
    rw [← Option.some.inj hj]
    simpa using hno j hl
  rw [roF, e]
/-- Where somebody has a role. -/
def haF (l : List HA) (w s : ByteArray) : Int := match l.findIdx? (fun x => decide (x.1 = w ∧ x.2 = s)) with
  | some i => (i : Int)
  | none => -1
theorem haF_at {l : List HA} {w s : ByteArray} {i : Nat} (hi : i < l.length) (h : (haAt l i).1 = w ∧ (haAt l i).2 = s) (hno : ∀ j, j < i → ¬ ((haAt l j).1 = w ∧ (haAt l j).2 = s)) : haF l w s = (i : Int) := by
  have e : l.findIdx? (fun x => decide (x.1 = w ∧ x.2 = s)) = some i := by
    rw [List.findIdx?_eq_some_iff_getElem]
    have e1 := haAt_some hi
    rw [List.getElem?_eq_getElem hi] at e1
    refine ⟨hi, by rw [Option.some.inj e1]; exact decide_eq_true h, fun j hj => ?_⟩
    have e2 := haAt_some (l := l) (i := j) (by omega)
    rw [List.getElem?_eq_getElem (by omega)] at e2
    rw [Option.some.inj e2]
    simpa using hno j hj
  rw [haF, e]
theorem haF_no {l : List HA} {w s : ByteArray} (hno : ∀ j, j < l.length → ¬ ((haAt l j).1 = w ∧ (haAt l j).2 = s)) : haF l w s = -1 := by
  have e : l.findIdx? (fun x => decide (x.1 = w ∧ x.2 = s)) = none := by
    rw [List.findIdx?_eq_none_iff]
    intro x hx
    obtain ⟨j, hj⟩ := List.getElem?_of_mem hx
    have hl := (List.getElem?_eq_some_iff.1 hj).1
    rw [haAt_some hl] at hj
    rw [← Option.some.inj hj]
    simpa using hno j hl
  rw [haF, e]
theorem sl_one {w : World} {v : Value} {sz n : Nat} {L : List Value} (h : Sl w v sz n L) : v.oneCell' = true := by
  obtain ⟨A, c, rfl⟩ := sl_shape h; rfl
theorem Sl.roE {w : World} {g b m m' c : Nat} {l : List RO} (h : Sl w (.slice (some ⟨g, b, none⟩) m c) 2 m' (l.flatMap roC)) (i : Nat) (hi : i < l.length) {j : Nat} {u : Value} (hu : (roC (roAt l i))[j]? = some u) : w.cell? ⟨g, b + i * 2 + j, none⟩ = some u := by
  have hj : j < 2 := by have := (List.getElem?_eq_some_iff.1 hu).1; rwa [roC_len] at this
  rw [Nat.add_assoc]; exact h.get _ _ (ro_cell hi hu hj)
theorem Sl.haE {w : World} {g b m m' c : Nat} {l : List HA} (h : Sl w (.slice (some ⟨g, b, none⟩) m c) 2 m' (l.flatMap haC)) (i : Nat) (hi : i < l.length) {j : Nat} {u : Value} (hu : (haC (haAt l i))[j]? = some u) : w.cell? ⟨g, b + i * 2 + j, none⟩ = some u := by
  have hj : j < 2 := by have := (List.getElem?_eq_some_iff.1 hu).1; rwa [haC_len] at this
  rw [Nat.add_assoc]; exact h.get _ _ (ha_cell hi hu hj)
theorem ro_name (x : RO) : (roC x)[0]? = some (.string x.1) := rfl
theorem ro_ops (x : RO) : (roC x)[1]? = some x.2.1 := rfl
theorem ha_who (x : HA) : (haC x)[0]? = some (.string x.1) := rfl
theorem ha_role (x : HA) : (haC x)[1]? = some (.string x.2) := rfl
abbrev okRo (w : World) (R : List RO) : Prop := ∀ x ∈ R, Sl w x.2.1 1 x.2.2.length (x.2.2.map (Value.int .i64))
theorem roC_one {w : World} {R : List RO} (h : okRo w R) {x : RO} (hx : x ∈ R) : ∀ u ∈ roC x, u.oneCell' = true := oneC rfl (one1 (sl_one (h x hx)))
theorem haC_one (x : HA) : ∀ u ∈ haC x, u.oneCell' = true := oneC rfl (one1 rfl)
theorem roR_snoc (T : Nat) (v : Value) (l : List RO) (x : RO) : Res.row T 2 v (l.length + 1) (l.flatMap roC ++ roC x) = .row T 2 v (l ++ [x]).length ((l ++ [x]).flatMap roC) := by simp
theorem haR_snoc (T : Nat) (v : Value) (l : List HA) (x : HA) : Res.row T 2 v (l.length + 1) (l.flatMap haC ++ haC x) = .row T 2 v (l ++ [x]).length ((l ++ [x]).flatMap haC) := by simp
/-- A thing stays, or is made anew. -/
def Renewed (w w' : World) (r r' : Res) : Prop := (r' = r ∧ Hp w [] w' []) ∨ Hp w [] w' [r']
theorem Hp.renew {w0 w w' : World} {S : List Nat} {H : List Res} {r r' : Res} (i : Nat) (h : Hp w0 S w H) (hi : H[i]? = some r) (k : Renewed w w' r r') : Hp w0 S w' (H.set i r') := by
  have hs : H.set i r = H := by
    apply List.ext_getElem?
    intro j
    rw [List.getElem?_set]
    split
    · rename_i e; subst e
      obtain ⟨q, e⟩ := List.getElem?_eq_some_iff.1 hi
      simp [q, e]
    · rfl
  rcases k with ⟨rfl, k⟩ | k
  · rw [hs]; have h2 := h.comp k; simpa using h2
  · refine ((h.comp k).sub (H' := r' :: H.eraseIdx i) ?_).perm (perm_set H i r r' hi)
    exact List.Sublist.cons_cons _ (List.eraseIdx_sublist _ _)
/-- An act of the law. -/
structure OpR where
  kind : Int
  who : ByteArray
  role : ByteArray
  ov : Value
  ops : List Int
instance : Inhabited OpR := ⟨⟨0, ⟨#[]⟩, ⟨#[]⟩, .slice none 0 0, []⟩⟩
def goC (x : OpR) : List Value := [.int .i64 x.kind, .string x.who, .string x.role, x.ov]
def goAt (l : List OpR) (i : Nat) : OpR := l.getD i default
theorem goC_len (x : OpR) : (goC x).length = 4 := rfl
theorem goAt_some {l : List OpR} {i : Nat} (h : i < l.length) : l[i]? = some (goAt l i) := by rw [goAt, List.getD_eq_getElem?_getD, List.getElem?_eq_getElem h]; rfl
theorem goAt_mem {l : List OpR} {i : Nat} (h : i < l.length) : goAt l i ∈ l := List.mem_of_getElem? (goAt_some h)
theorem Sl.goE {w : World} {g b m m' c : Nat} {l : List OpR} (h : Sl w (.slice (some ⟨g, b, none⟩) m c) 4 m' (l.flatMap goC)) (i : Nat) (hi : i < l.length) {j : Nat} {u : Value} (hu : (goC (goAt l i))[j]? = some u) : w.cell? ⟨g, b + i * 4 + j, none⟩ = some u := by
  have hj : j < 4 := by have := (List.getElem?_eq_some_iff.1 hu).1; rwa [goC_len] at this
  rw [Nat.add_assoc]; exact h.get _ _ ((flat_get goC_len l i j (goAt l i) hj (goAt_some hi)).trans hu)
theorem go_kind (x : OpR) : (goC x)[0]? = some (.int .i64 x.kind) := rfl
theorem go_who (x : OpR) : (goC x)[1]? = some (.string x.who) := rfl
theorem go_role (x : OpR) : (goC x)[2]? = some (.string x.role) := rfl
theorem go_ov (x : OpR) : (goC x)[3]? = some x.ov := rfl
abbrev okG (w : World) (l : List OpR) : Prop := ∀ x ∈ l, Sl w x.ov 1 x.ops.length (x.ops.map (Value.int .i64))
def lightO (l : List OpR) : Prop := l.length ≤ 120 ∧ ∀ x ∈ l, x.who.size ≤ 100 ∧ x.role.size ≤ 100 ∧ x.ops.length ≤ 30
theorem gos_all {l : List OpR} {p : OpR → Prop} (h : ∀ j, j < l.length → p (goAt l j)) : ∀ x ∈ l, p x := by
  intro x hx
  obtain ⟨j, hj⟩ := List.getElem?_of_mem hx
  have hl := (List.getElem?_eq_some_iff.1 hj).1
  rw [goAt_some hl] at hj
  rw [← Option.some.inj hj]; exact h j hl
end Go.Mo
