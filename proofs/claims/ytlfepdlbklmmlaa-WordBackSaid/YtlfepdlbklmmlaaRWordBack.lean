/- WordBack: for whatever fields the law returns true, and the input reads as it did. No condition. -/
import Derived.Test.YtlfepdlbklmmlaaRows
import Derived.Test.YtlfepdlbklmmlaaFWord
import Derived.Test.YtlfepdlbklmmlaaRow
set_option linter.unusedVariables false
set_option linter.unusedSimpArgs false
namespace Go.Proofs.Ytlfepdlbklmmlaa
namespace wordBack
open Go.Mo Go.ChangeShapes Go.WideShapes Go.ChangeAt Go.RowKit
open Go.ChangeMaps (open_string shut_string)
theorem field_of {H : Type} {enc : TypeId × Value → H} {W : World} : ∀ n cs x, DataW.trod enc Try.prog W 0 (fun _ => true) true n 41 cs = some x → ∃ y : FieldM, cs = y.cells ∧ y.ok := by
  intro n cs x h
  have hl4 := struct_len Try.underlying41 h (k := 4) (by kernel_rfl)
  match cs, hl4 with
  | [c0, c1, c2, c3], _ =>
    obtain ⟨n0, y0, g0⟩ := field_trod Try.underlying41 h 0 (k := 1) (ds := [c0]) rfl (by kernel_rfl) rfl
    obtain ⟨n1, y1, g1⟩ := field_trod Try.underlying41 h 1 (k := 1) (ds := [c1]) rfl (by kernel_rfl) rfl
    obtain ⟨n2, y2, g2⟩ := field_trod Try.underlying41 h 2 (k := 1) (ds := [c2]) rfl (by kernel_rfl) rfl
    obtain ⟨n3, y3, g3⟩ := field_trod Try.underlying41 h 3 (k := 1) (ds := [c3]) rfl (by kernel_rfl) rfl
    obtain ⟨b, e0, _⟩ := DataW.trod_bool Try.underlying4 g0
    obtain ⟨z, e1, _, w1⟩ := DataW.trod_int Try.underlying5 g1
    obtain ⟨k, e2, _, w2⟩ := DataW.trod_int Try.underlying22 g2
    obtain ⟨s, e3, _, w3⟩ := DataW.trod_string Try.underlying9 g3
    have x1 := wf_u8 w1
    have x2 := wf_u64 w2
    simp only [List.cons.injEq, and_true] at e0 e1 e2 e3
    refine ⟨⟨b, UInt8.ofNat z.toNat, k.toNat, s⟩, ?_, ?_, w3⟩
    · have h2 : (UInt8.ofNat z.toNat).toNat = z.toNat % 256 := UInt8.toNat_ofNat'
      simp only [FieldM.cells, e0, e1, e2, e3, h2, List.cons.injEq, Value.int.injEq, true_and, and_true]
      omega
    · show k.toNat < _
      omega
theorem own : ownKnob Try.prog.godebug = none := by kernel_rfl
theorem laidOut : laidOutB Try.prog = true := by kernel_rfl
set_option maxRecDepth 100000 in
theorem lifted (os : Os) (started : os.Started) (H : Type) (enc : TypeId × Value → H) :
    ReturnsInHanded {} Try.checked os 5 .any (Rows.wordBackSpec.pre6 enc Try.prog Try.f5 Rows.wordBackRow.domain false) (Rows.wordBackSpec.post enc Try.prog Try.f5 false true false false) := by
  refine returnsInHanded_of_change_sized (C := Try.checked) own started (by kernel_rfl) Try.func5
    (ChangeSpec.witness6 (enc := enc) (C := Try.checked) false ⟨#[], #[.slice none 0 0], []⟩ 8 (by kernel_rfl) (by kernel_rfl) (by kernel_rfl) (by kernel_rfl)) ?_
  intro W base args ds gs before hval0 hW hcnd hsz0 _
  have hsz : (DataW.weightsEach Try.prog (Try.f5.params.toList ++ Rows.wordBackSpec.plain.varTypes Try.prog) (ds ++ gs)).all (· ≤ reachBytes) = true := hsz0
  have hval : ∀ (j : Nat) t v, Try.f5.params[j]? = some t → args[j]? = some v → Value.okWide Try.prog W .any base t v := hval0
  have hW' := hW
  obtain ⟨p, q, hA0, hV, rfl, hfz, hnd⟩ := hW
  have hA : DataW.TrodAll enc Try.prog W 0 (fun _ => true) true Try.f5.params.toList args.toList ds p := hA0
  rw [Try.params5] at hA hval hsz
  obtain ⟨v0, vs0, d0, ds0, p0, q0, hargs, rfl, rfl, h0, r0⟩ := trodAll_cons hA
  obtain ⟨rfl, rfl, rfl⟩ := trodAll_nil r0
  obtain rfl : args = #[v0] := by cases args; simp_all
  obtain ⟨rfl, rfl⟩ := trodVars_none hV
  have k0 := h0
  obtain ⟨a0, len0, cap0, rfl⟩ := okWide_slice Try.underlying39 (hval 0 39 v0 rfl rfl)
  obtain ⟨fs0, hl0, hf0, s0⟩ := row_of_flat (by decide) Try.underlying39 (by kernel_rfl) FieldM.cells_length field_of h0
  clear hA0 hval0
  refine (calls_below (law_Back _ _ _ _ s0 hf0 hl0)).mono fun e W' ⟨he, bel⟩ => ?_
  subst he
  exact ⟨_, rfl, _, _, _, [], _, [], hW', trodAll_mk1 (shut_bool Try.underlying4 _), (trodAll_cons_mk (Below.trod laidOut (by kernel_rfl) (of_decide_eq_true (by kernel_rfl)) k0 bel (trod_below k0)) trodAll_mk0), rfl, bel.frame _, fun h => by cases h⟩
theorem over : Rows.wordBackRow.holds Try.pinned (OpenSpec.ofChange Rows.wordBackSpec) :=
  OpenClaim.holds_of_wide 5 Try.f5 rfl rfl rfl rfl rfl rfl rfl ⟨rfl, rfl, rfl, rfl, rfl⟩ rfl rfl rfl rfl rfl (by kernel_rfl) Try.func5 (by kernel_rfl)
    (of_decide_eq_true (by kernel_rfl)) (by unfold Func.isWrapper; first | (rw [if_pos (by decide +kernel)]; kernel_rfl) | (rw [if_neg (by decide +kernel)]; exact ⟨rfl, rfl⟩))
    (fun os started H enc _ => lifted os started H enc)
end wordBack
/-- The row, under a short name. -/
theorem wordBack_holds : Rows.WordBackSaid := wordBack.over
#print axioms wordBack_holds
end Go.Proofs.Ytlfepdlbklmmlaa
