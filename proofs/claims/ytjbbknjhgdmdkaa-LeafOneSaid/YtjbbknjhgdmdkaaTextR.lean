/- A text that came in as an argument. -/
import Derived.Test.YtjbbknjhgdmdkaaRow
import Derived.Test.YtjbbknjhgdmdkaaLeafS
set_option linter.unusedVariables false
set_option linter.unusedSimpArgs false
namespace Go.Mo
open Go.ChangeShapes Go.WideShapes Go.ChangeAt Go.RowKit
section
variable {H : Type} {enc : TypeId × Value → H} {P : Program} {W : World}
theorem bytes_of_trod {t e : TypeId} {m n : Nat} {cs : List Value} {x : DataW H × List MemPlace} (ht : P.underlying t = some (.array m e)) (he : P.underlying e = some (.int .u8)) (hc : P.cellsOf e = 1) (hlen : cs.length = m)
    (h : DataW.trod enc P W 0 (fun _ => true) true n t cs = some x) : ∃ b : List UInt8, b.length = m ∧ cs = bys b := by
  obtain ⟨xs, n, _, _, hl, hxl, hi⟩ := DataW.trod_array ht h
  simp only [hc, Nat.mul_one] at hi
  refine ⟨cs.map byteOf, by rw [List.length_map, hlen], ?_⟩
  apply List.ext_getElem (by rw [bys_length, List.length_map])
  intro i h1 h2
  have him : i < m := by omega
  have h3 := hi i him
  obtain ⟨y, hy⟩ : ∃ y, xs[i]? = some y := ⟨_, List.getElem?_eq_getElem (by omega)⟩
  rw [hy, List.drop_eq_getElem_cons h1] at h3
  obtain ⟨q, e2, _, hw⟩ := DataW.trod_int he h3
  simp only [List.take_succ_cons, List.take_zero, List.cons.injEq, and_true] at e2
  have hq := wf_u8 hw
  have h4 : (UInt8.ofNat q.toNat).toNat = q.toNat % 256 := UInt8.toNat_ofNat'
  simp only [bys, List.map_map, List.getElem_map, Function.comp_apply]
  rw [e2, byteOf, h4]
  congr 1
  omega
theorem ints_of_trod {t e : TypeId} {k : IntKind} {n : Nat} {cs : List Value} {x : DataW H × List MemPlace} (ht : P.underlying t = some (.slice e)) (he : P.underlying e = some (.int k)) (hc : P.cellsOf e = 1)
    (h : DataW.trod enc P W 0 (fun _ => true) true n t cs = some x) : ∃ A len cap zs, cs = [.slice A len cap] ∧ IsRow k W A len cap zs := by
  obtain ⟨d, ps⟩ := x
  rcases open_ints ht he hc h with ⟨hcs, _⟩ | ⟨x, l, c, zs, hcs, _, hl, hm, hz, _, hcell, hwz⟩
  · exact ⟨none, 0, 0, [], hcs, .inl ⟨rfl, rfl, rfl, rfl⟩⟩
  · exact ⟨some x, l, c, zs, hcs, .inr ⟨_, rfl, hl, hm, by simpa using hz, hcell, hwz⟩⟩
/-- The fields of a text: address, size, slots, bound. -/
def TextAt (P : Program) (t : TypeId) : Prop := ∃ (fs : Array Field) (f0 f1 f2 f3 : Field) (e0 e2 : TypeId), P.underlying t = some (.struct fs) ∧ P.cellsOf t = 35 ∧ fs[0]? = some f0 ∧ fs[1]? = some f1 ∧ fs[2]? = some f2 ∧ fs[3]? = some f3 ∧
  (f0.offset = 0 ∧ P.underlying f0.type = some (.array 32 e0) ∧ P.cellsOf f0.type = 32 ∧ P.underlying e0 = some (.int .u8) ∧ P.cellsOf e0 = 1) ∧ (f1.offset = 32 ∧ P.underlying f1.type = some (.int .i64) ∧ P.cellsOf f1.type = 1) ∧
  (f2.offset = 33 ∧ P.underlying f2.type = some (.slice e2) ∧ P.cellsOf f2.type = 1 ∧ P.underlying e2 = some (.int .i64) ∧ P.cellsOf e2 = 1) ∧ (f3.offset = 34 ∧ P.underlying f3.type = some (.int .i64) ∧ P.cellsOf f3.type = 1)
theorem four_cut {cs : List Value} (h : cs.length = 35) : cs = (cs.drop 0).take 32 ++ ((cs.drop 32).take 1 ++ ((cs.drop 33).take 1 ++ (cs.drop 34).take 1)) := by
  have e1 : (cs.drop 34).take 1 = cs.drop 34 := List.take_of_length_le (by rw [List.length_drop]; omega)
  have e2 : cs.drop 33 = (cs.drop 33).take 1 ++ cs.drop 34 := by conv => lhs; rw [← List.take_append_drop 1 (cs.drop 33), List.drop_drop]
  have e3 : cs.drop 32 = (cs.drop 32).take 1 ++ cs.drop 33 := by conv => lhs; rw [← List.take_append_drop 1 (cs.drop 32), List.drop_drop]
  rw [e1, ← e2, ← e3, List.drop_zero, List.take_append_drop]
theorem text_of {base : Nat} {r : Reach} {t : TypeId} {v : Value} {d : DataW H} {ps : List MemPlace} (hT : TextAt P t) (hv : Value.okWide P W r base t v) (h : DataW.Trod enc P W 0 (fun _ => true) true t v d ps) :
    ∃ a s A n c b zs, v = .agg ⟨textC a s (.slice A n c) b⟩ ∧ a.length = 32 ∧ IsRow .i64 W A n c zs ∧ (-9223372036854775808 ≤ s ∧ s ≤ 9223372036854775807) ∧ (-9223372036854775808 ≤ b ∧ b ≤ 9223372036854775807) := by
  obtain ⟨fs, f0, f1, f2, f3, e0, e2, ht, hct, h0, h1, h2, h3, ⟨o0, u0, c0, ue0, ce0⟩, ⟨o1, u1, c1⟩, ⟨o2, u2, c2, ue2, ce2⟩, ⟨o3, u3, c3⟩⟩ := hT
  obtain ⟨cs, rfl⟩ : ∃ cs, v = .agg cs := by
    simp only [Value.okWide, ht] at hv
    obtain ⟨cs, q, _⟩ := hv
    exact ⟨cs, q⟩
  obtain ⟨fuel, hf⟩ := h
  have hcs : (Value.agg cs).cells = cs := rfl
  rw [hcs] at hf
  have hlen := struct_len ht hf hct
  obtain ⟨n0, y0, t0⟩ := field_trod ht hf 0 h0 c0 rfl
  obtain ⟨n1, y1, t1⟩ := field_trod ht hf 1 h1 c1 rfl
  obtain ⟨n2, y2, t2⟩ := field_trod ht hf 2 h2 c2 rfl
  obtain ⟨n3, y3, t3⟩ := field_trod ht hf 3 h3 c3 rfl
  rw [o0] at t0
  rw [o1] at t1
  rw [o2] at t2
  rw [o3] at t3
  obtain ⟨a, ha, ea⟩ := bytes_of_trod u0 ue0 ce0 (by rw [List.length_take, List.length_drop]; omega) t0
  obtain ⟨s, es, _, ws⟩ := DataW.trod_int u1 t1
  obtain ⟨A, n, c, zs, eA, hz⟩ := ints_of_trod u2 ue2 ce2 t2
  obtain ⟨b, eb, _, wb⟩ := DataW.trod_int u3 t3
  refine ⟨a, s, A, n, c, b, zs, ?_, ha, hz, wf_i64 ws, wf_i64 wb⟩
  have e := four_cut hlen
  rw [ea, es, eA, eb] at e
  congr 1
  exact congrArg Array.mk e
end
end Go.Mo
