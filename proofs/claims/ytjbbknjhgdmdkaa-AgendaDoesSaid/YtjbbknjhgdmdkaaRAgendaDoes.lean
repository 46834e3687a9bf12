/- AgendaDoes: for whatever acts the law returns true, and the input reads as it did. No condition. -/
import Derived.Test.YtjbbknjhgdmdkaaRows
import Derived.Test.YtjbbknjhgdmdkaaLAgenda
import Derived.Test.YtjbbknjhgdmdkaaRow
set_option linter.unusedVariables false
set_option linter.unusedSimpArgs false
namespace Go.Proofs.Ytjbbknjhgdmdkaa
namespace agendaDoes
open Go.Mo Go.ChangeShapes Go.WideShapes Go.ChangeAt Go.RowKit
open Go.ChangeMaps (open_string shut_string)
theorem tri_of {H : Type} {enc : TypeId × Value → H} {W : World} : ∀ n cs x, DataW.trod enc Try.prog W 0 (fun _ => true) true n 28 cs = some x → ∃ y : Int × Int × Int, cs = trC y ∧ True := by
  intro n cs x h
  have hl := struct_len Try.underlying28 h (k := 3) (by kernel_rfl)
  match cs, hl with
  | [c0, c1, c2], _ =>
    obtain ⟨n0, y0, g0⟩ := field_trod Try.underlying28 h 0 (k := 1) (ds := [c0]) rfl (by kernel_rfl) rfl
    obtain ⟨n1, y1, g1⟩ := field_trod Try.underlying28 h 1 (k := 1) (ds := [c1]) rfl (by kernel_rfl) rfl
    obtain ⟨n2, y2, g2⟩ := field_trod Try.underlying28 h 2 (k := 1) (ds := [c2]) rfl (by kernel_rfl) rfl
    obtain ⟨z0, e0, _, w0⟩ := DataW.trod_int Try.underlying3 g0
    obtain ⟨z1, e1, _, w1⟩ := DataW.trod_int Try.underlying3 g1
    obtain ⟨z2, e2, _, w2⟩ := DataW.trod_int Try.underlying3 g2
    simp only [List.cons.injEq, and_true] at e0 e1 e2
    exact ⟨(z0, z1, z2), by rw [e0, e1, e2]; rfl, trivial⟩
theorem own : ownKnob Try.prog.godebug = none := by kernel_rfl
theorem laidOut : laidOutB Try.prog = true := by kernel_rfl
set_option maxRecDepth 100000 in
theorem lifted (os : Os) (started : os.Started) (H : Type) (enc : TypeId × Value → H) :
    ReturnsInHanded {} Try.checked os 3 .any (Rows.agendaDoesSpec.pre6 enc Try.prog Try.f3 Rows.agendaDoesRow.domain false) (Rows.agendaDoesSpec.post enc Try.prog Try.f3 false true false false) := by
  refine returnsInHanded_of_change_sized (C := Try.checked) own started (by kernel_rfl) Try.func3
    (ChangeSpec.witness6 (enc := enc) (C := Try.checked) false ⟨#[], #[.slice none 0 0], []⟩ 8 (by kernel_rfl) (by kernel_rfl) (by kernel_rfl) (by kernel_rfl)) ?_
  intro W base args ds gs before hval0 hW hcnd hsz0 _
  have hsz : (DataW.weightsEach Try.prog (Try.f3.params.toList ++ Rows.agendaDoesSpec.plain.varTypes Try.prog) (ds ++ gs)).all (· ≤ reachBytes) = true := hsz0
  have hval : ∀ (j : Nat) t v, Try.f3.params[j]? = some t → args[j]? = some v → Value.okWide Try.prog W .any base t v := hval0
  have hW' := hW
  obtain ⟨p, q, hA0, hV, rfl, hfz, hnd⟩ := hW
  have hA : DataW.TrodAll enc Try.prog W 0 (fun _ => true) true Try.f3.params.toList args.toList ds p := hA0
  rw [Try.params3] at hA hval hsz
  obtain ⟨v0, vs0, d0, ds0, p0, q0, hargs, rfl, rfl, h0, r0⟩ := trodAll_cons hA
  obtain ⟨rfl, rfl, rfl⟩ := trodAll_nil r0
  obtain rfl : args = #[v0] := by cases args; simp_all
  obtain ⟨rfl, rfl⟩ := trodVars_none hV
  have k0 := h0
  obtain ⟨a0, len0, cap0, rfl⟩ := okWide_slice Try.underlying22 (hval 0 22 v0 rfl rfl)
  obtain ⟨l0, hl0, hf0, s0⟩ := row_of_flat (by decide) Try.underlying22 (by kernel_rfl) trC_len tri_of h0
  clear hA0 hval0
  refine (calls_below (law_AgendaDoes _ _ l0 _ s0)).mono fun e W' ⟨he, bel⟩ => ?_
  subst he
  exact ⟨_, rfl, _, _, _, [], _, [], hW', trodAll_mk1 (shut_bool Try.underlying4 _), (trodAll_cons_mk (Below.trod laidOut (by kernel_rfl) (of_decide_eq_true (by kernel_rfl)) k0 bel (trod_below k0)) trodAll_mk0), rfl, bel.frame _, fun h => by cases h⟩
theorem over : Rows.agendaDoesRow.holds Try.pinned (OpenSpec.ofChange Rows.agendaDoesSpec) :=
  OpenClaim.holds_of_wide 3 Try.f3 rfl rfl rfl rfl rfl rfl rfl ⟨rfl, rfl, rfl, rfl, rfl⟩ rfl rfl rfl rfl rfl (by kernel_rfl) Try.func3 (by kernel_rfl)
    (of_decide_eq_true (by kernel_rfl)) (by unfold Func.isWrapper; first | (rw [if_pos (by decide +kernel)]; kernel_rfl) | (rw [if_neg (by decide +kernel)]; exact ⟨rfl, rfl⟩))
    (fun os started H enc _ => lifted os started H enc)
end agendaDoes
/-- The row, under a short name. -/
theorem agendaDoes_holds : Rows.AgendaDoesSaid := agendaDoes.over
#print axioms agendaDoes_holds
end Go.Proofs.Ytjbbknjhgdmdkaa
