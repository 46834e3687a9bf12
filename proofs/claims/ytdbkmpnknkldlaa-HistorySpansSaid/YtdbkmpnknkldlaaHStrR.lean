/- From what a row's statement says of its arguments to structs of numbers, texts, bits and rows of bytes. -/
import Derived.Test.YtdbkmpnknkldlaaHRow
import Derived.Test.YtdbkmpnknkldlaaHStr
set_option linter.unusedVariables false
set_option linter.unusedSimpArgs false
namespace Go.Mo
open Go.ChangeShapes Go.WideShapes Go.ChangeAt Go.RowKit
theorem trod_arrB {H : Type} {enc : TypeId × Value → H} {P : Program} {W : World} {t e : TypeId} {m fuel : Nat} {cs : List Value} {x : DataW H × List MemPlace} (ht : P.underlying t = some (.array m e)) (he : P.underlying e = some (.int .u8)) (hc : P.cellsOf e = 1) (hct : P.cellsOf t = m)
    (hf : DataW.trod enc P W 0 (fun _ => true) true fuel t cs = some x) : ∃ l : List UInt8, l.length = m ∧ cs = bys l := by
  obtain ⟨xs, n, _, _, hl, hxl, hi⟩ := DataW.trod_array ht hf
  simp only [hc, Nat.mul_one] at hi
  have hlen : cs.length = m := by rw [hl, hct]
  refine ⟨cs.map byteOf, by rw [List.length_map, hlen], ?_⟩
  have e1 : bys (cs.map byteOf) = cs := by
    apply List.ext_getElem (by rw [bys_length, List.length_map])
    intro i h1 h2
    have him : i < m := by omega
    have h3 := hi i him
    obtain ⟨y, hy⟩ : ∃ y, xs[i]? = some y := ⟨_, List.getElem?_eq_getElem (by omega)⟩
    rw [hy, List.drop_eq_getElem_cons h2] at h3
    obtain ⟨q, e2, _, hw⟩ := DataW.trod_int he h3
    simp only [List.take_succ_cons, List.take_zero, List.cons.injEq, and_true] at e2
    have hq := wf_u8 hw
    have h4 : (UInt8.ofNat q.toNat).toNat = q.toNat % 256 := UInt8.toNat_ofNat'
    simp only [bys, List.map_map, List.getElem_map, Function.comp_apply]
    rw [e2, byteOf, h4]
    congr 1
    omega
  rw [e1]
def FV.rng : FV → Prop
  | .i k n => (Lit.int k n).wf = true
  | _ => True
theorem trod_ft {H : Type} {enc : TypeId × Value → H} {P : Program} {W : World} {T : TypeId} {t : FT} {fuel : Nat} {cs : List Value} {x : DataW H × List MemPlace} (hT : FtAt P T t) (h : DataW.trod enc P W 0 (fun _ => true) true fuel T cs = some x) : ∃ y : FV, y.ok t ∧ y.rng ∧ cs = y.cells := by
  cases t with
  | i k => obtain ⟨q, e, _, hw⟩ := DataW.trod_int hT h; exact ⟨.i k q, rfl, hw, e⟩
  | s => obtain ⟨q, e, _, _⟩ := DataW.trod_string hT h; exact ⟨.s q, trivial, trivial, e⟩
  | b => obtain ⟨q, e, _⟩ := DataW.trod_bool hT h; exact ⟨.b q, trivial, trivial, e⟩
  | a n =>
    obtain ⟨E, hA, hE, hs, hz⟩ := hT
    obtain ⟨inf, hi, hs'⟩ := Option.map_eq_some_iff.1 hs
    obtain ⟨inf2, hi2, hs2⟩ := Option.map_eq_some_iff.1 hz
    obtain ⟨l, hl, e⟩ := trod_arrB hA hE (by simp [Program.cellsOf, hi, hs']) (by simp [Program.cellsOf, hi2, hs2]) h
    exact ⟨.a l, hl, trivial, e⟩
def ftsSize : List FT → Nat
  | [] => 0
  | t :: ts => t.size + ftsSize ts
def sizesB (P : Program) : List Field → List FT → Bool
  | f :: fs, t :: ts => P.cellsOf f.type == t.size && sizesB P fs ts
  | _, _ => true
theorem trod_fields {H : Type} {enc : TypeId × Value → H} {P : Program} {W : World} : ∀ (fs : List Field) (ts : List FT) (off : Nat) (cs : List Value), FieldsOk P fs off ts → sizesB P fs ts = true → cs.length = off + ftsSize ts →
    (∀ (i : Nat) (fd : Field), fs[i]? = some fd → ∃ n y, DataW.trod enc P W 0 (fun _ => true) true n fd.type ((cs.drop fd.offset).take (P.cellsOf fd.type)) = some y) → ∃ ys : List FV, fvsOk ys ts ∧ (∀ y ∈ ys, y.rng) ∧ cs.drop off = fvC ys
  | [], [], off, cs, _, _, hl, _ => ⟨[], trivial, by simp, List.drop_of_length_le (by simp only [ftsSize] at hl; omega)⟩
  | [], _ :: _, _, _, h, _, _, _ => absurd h id
  | _ :: _, [], _, _, h, _, _, _ => absurd h id
  | f :: fs, t :: ts, off, cs, hf, hs, hl, hi => by
    obtain ⟨f1, f2, f3, f4⟩ := hf
    simp only [sizesB, Bool.and_eq_true, beq_iff_eq] at hs
    obtain ⟨n, y, h⟩ := hi 0 f rfl
    rw [hs.1, f2] at h
    obtain ⟨z, z1, z2, z3⟩ := trod_ft f3 h
    simp only [ftsSize] at hl
    obtain ⟨ys, y1, y2, y3⟩ := trod_fields fs ts (off + t.size) cs f4 hs.2 (by omega) (fun i fd h => hi (i + 1) fd (by simpa using h))
    refine ⟨z :: ys, ⟨z1, y1⟩, ?_, ?_⟩
    · intro y hy
      rcases List.mem_cons.1 hy with rfl | hy
      · exact z2
      · exact y2 y hy
    · have e : fvC (z :: ys) = z.cells ++ fvC ys := by simp [fvC]
      rw [e, ← z3, ← y3, ← List.drop_drop, List.take_append_drop]
/-- A struct of plain parts that came in. -/
theorem trod_flat {H : Type} {enc : TypeId × Value → H} {P : Program} {W : World} {T : Nat} {ts : List FT} {fuel : Nat} {cs : List Value} {x : DataW H × List MemPlace} (hT : FlatAt P T ts) (hs : sizesB P (P.fieldsOf T).toList ts = true) (hc : P.cellsOf T = ftsSize ts)
    (h : DataW.trod enc P W 0 (fun _ => true) true fuel T cs = some x) : ∃ ys : List FV, fvsOk ys ts ∧ (∀ y ∈ ys, y.rng) ∧ cs = fvC ys := by
  obtain ⟨fs, hu, _, _, hf⟩ := hT
  have hfo : P.fieldsOf T = fs := by simp [Program.fieldsOf, hu]
  rw [hfo] at hs
  have hl := struct_len hu h hc
  obtain ⟨ys, y1, y2, y3⟩ := trod_fields (enc := enc) (W := W) fs.toList ts 0 cs hf hs (by omega) (fun i fd hi => field_trod hu h i (by simpa using hi) rfl rfl)
  exact ⟨ys, y1, y2, by rw [← y3]; rfl⟩
theorem fvs_nil {ys : List FV} (h : fvsOk ys []) : ys = [] := by
  cases ys with
  | nil => rfl
  | cons y ys => exact absurd h id
theorem fvs_i {ys : List FV} {ts : List FT} {k : IntKind} (h : fvsOk ys (.i k :: ts)) : ∃ n r, ys = .i k n :: r ∧ fvsOk r ts := by
  cases ys with
  | nil => exact absurd h id
  | cons y ys =>
    obtain ⟨h1, h2⟩ := h
    cases y <;> first | exact absurd h1 id | skip
    rename_i k' n
    obtain rfl : k' = k := h1
    exact ⟨n, ys, rfl, h2⟩
theorem fvs_s {ys : List FV} {ts : List FT} (h : fvsOk ys (.s :: ts)) : ∃ n r, ys = .s n :: r ∧ fvsOk r ts := by
  cases ys with
  | nil => exact absurd h id
  | cons y ys =>
    obtain ⟨h1, h2⟩ := h
    cases y <;> first | exact absurd h1 id | exact ⟨_, ys, rfl, h2⟩
theorem fvs_a {ys : List FV} {ts : List FT} {m : Nat} (h : fvsOk ys (.a m :: ts)) : ∃ n r, ys = .a n :: r ∧ n.length = m ∧ fvsOk r ts := by
  cases ys with
  | nil => exact absurd h id
  | cons y ys =>
    obtain ⟨h1, h2⟩ := h
    cases y <;> first | exact absurd h1 id | exact ⟨_, ys, rfl, h1, h2⟩
end Go.Mo
