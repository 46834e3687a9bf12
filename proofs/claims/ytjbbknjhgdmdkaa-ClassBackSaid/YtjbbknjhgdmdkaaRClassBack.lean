/- ClassBack: for whatever acts and sector the law returns true, and the input reads as it did. No condition. -/
import Derived.Test.YtjbbknjhgdmdkaaRows
import Derived.Test.YtjbbknjhgdmdkaaLClass
import Derived.Test.YtjbbknjhgdmdkaaRow
set_option linter.unusedVariables false
set_option linter.unusedSimpArgs false
namespace Go.Proofs.Ytjbbknjhgdmdkaa
namespace classBack
open Go.Mo Go.ChangeShapes Go.WideShapes Go.ChangeAt Go.RowKit
open Go.ChangeMaps (open_string shut_string)
theorem op_of {H : Type} {enc : TypeId × Value → H} {W : World} : ∀ n cs x, DataW.trod enc Try.prog W 0 (fun _ => true) true n 107 cs = some x → ∃ y : Int × Cls, cs = opC y ∧ True := by
  intro n cs x h
  have hl := struct_len Try.underlying107 h (k := 5) (by kernel_rfl)
  match cs, hl with
  | [c0, c1, c2, c3, c4], _ =>
    obtain ⟨n0, y0, g0⟩ := field_trod Try.underlying107 h 0 (k := 1) (ds := [c0]) rfl (by kernel_rfl) rfl
    obtain ⟨n1, y1, g1⟩ := field_trod Try.underlying107 h 1 (k := 4) (ds := [c1, c2, c3, c4]) rfl (by kernel_rfl) rfl
    obtain ⟨m0, z0, q0⟩ := field_trod Try.underlying97 g1 0 (k := 1) (ds := [c1]) rfl (by kernel_rfl) rfl
    obtain ⟨m1, z1, q1⟩ := field_trod Try.underlying97 g1 1 (k := 1) (ds := [c2]) rfl (by kernel_rfl) rfl
    obtain ⟨m2, z2, q2⟩ := field_trod Try.underlying97 g1 2 (k := 1) (ds := [c3]) rfl (by kernel_rfl) rfl
    obtain ⟨m3, z3, q3⟩ := field_trod Try.underlying97 g1 3 (k := 1) (ds := [c4]) rfl (by kernel_rfl) rfl
    obtain ⟨k, e0, _, _⟩ := DataW.trod_int Try.underlying3 g0
    obtain ⟨s, e1, _, _⟩ := DataW.trod_string Try.underlying9 q0
    obtain ⟨p, e2, _, _⟩ := DataW.trod_int Try.underlying3 q1
    obtain ⟨a, e3, _⟩ := DataW.trod_bool Try.underlying4 q2
    obtain ⟨b, e4, _⟩ := DataW.trod_bool Try.underlying4 q3
    simp only [List.cons.injEq, and_true] at e0 e1 e2 e3 e4
    exact ⟨(k, ⟨s, p, a, b⟩), by rw [e0, e1, e2, e3, e4]; rfl, trivial⟩
theorem own : ownKnob Try.prog.godebug = none := by kernel_rfl
theorem laidOut : laidOutB Try.prog = true := by kernel_rfl
set_option maxRecDepth 100000 in
theorem lifted (os : Os) (started : os.Started) (H : Type) (enc : TypeId × Value → H) :
    ReturnsInHanded {} Try.checked os 12 .any (Rows.classBackSpec.pre6 enc Try.prog Try.f12 Rows.classBackRow.domain false) (Rows.classBackSpec.post enc Try.prog Try.f12 false true false false) := by
  refine returnsInHanded_of_change_sized (C := Try.checked) own started (by kernel_rfl) Try.func12
    (ChangeSpec.witness6 (enc := enc) (C := Try.checked) false ⟨#[], #[.slice none 0 0, .agg ⟨bys (List.replicate 256 0)⟩], []⟩ 8 (by kernel_rfl) (by kernel_rfl) (by kernel_rfl) (by kernel_rfl)) ?_
  intro W base args ds gs before hval0 hW hcnd hsz0 _
  have hsz : (DataW.weightsEach Try.prog (Try.f12.params.toList ++ Rows.classBackSpec.plain.varTypes Try.prog) (ds ++ gs)).all (· ≤ reachBytes) = true := hsz0
  have hval : ∀ (j : Nat) t v, Try.f12.params[j]? = some t → args[j]? = some v → Value.okWide Try.prog W .any base t v := hval0
  have hW' := hW
  obtain ⟨p, q, hA0, hV, rfl, hfz, hnd⟩ := hW
  have hA : DataW.TrodAll enc Try.prog W 0 (fun _ => true) true Try.f12.params.toList args.toList ds p := hA0
  rw [Try.params12] at hA hval hsz
  obtain ⟨v0, vs0, d0, ds0, p0, q0, hargs, rfl, rfl, h0, r0⟩ := trodAll_cons hA
  obtain ⟨v1, vs1, d1, ds1, p1, q1, rfl, rfl, rfl, h1, r1⟩ := trodAll_cons r0
  obtain ⟨rfl, rfl, rfl⟩ := trodAll_nil r1
  obtain rfl : args = #[v0, v1] := by cases args; simp_all
  obtain ⟨rfl, rfl⟩ := trodVars_none hV
  have k0 := h0
  obtain ⟨a0, len0, cap0, rfl⟩ := okWide_slice Try.underlying87 (hval 0 87 v0 rfl rfl)
  obtain ⟨l0, hl0, hf0, s0⟩ := row_of_flat (by decide) Try.underlying87 (by kernel_rfl) opC_len op_of h0
  have k1 := h1
  obtain ⟨x1, hx1, rfl⟩ := arr_bytes Try.underlying67 Try.underlying5 (by kernel_rfl) (by kernel_rfl) (hval 1 67 v1 rfl rfl) h1
  clear hA0 hval0
  refine (calls_below (law_ClassBack _ _ l0 x1 _ s0 hx1)).mono fun e W' ⟨he, bel⟩ => ?_
  subst he
  exact ⟨_, rfl, _, _, _, [], _, [], hW', trodAll_mk1 (shut_bool Try.underlying4 _), (trodAll_cons_mk (Below.trod laidOut (by kernel_rfl) (of_decide_eq_true (by kernel_rfl)) k0 bel (trod_below k0)) (trodAll_cons_mk (Below.trod laidOut (by kernel_rfl) (of_decide_eq_true (by kernel_rfl)) k1 bel (trod_below k1)) trodAll_mk0)), rfl, bel.frame _, fun h => by cases h⟩
theorem over : Rows.classBackRow.holds Try.pinned (OpenSpec.ofChange Rows.classBackSpec) :=
  OpenClaim.holds_of_wide 12 Try.f12 rfl rfl rfl rfl rfl rfl rfl ⟨rfl, rfl, rfl, rfl, rfl⟩ rfl rfl rfl rfl rfl (by kernel_rfl) Try.func12 (by kernel_rfl)
    (of_decide_eq_true (by kernel_rfl)) (by unfold Func.isWrapper; first | (rw [if_pos (by decide +kernel)]; kernel_rfl) | (rw [if_neg (by decide +kernel)]; exact ⟨rfl, rfl⟩))
    (fun os started H enc _ => lifted os started H enc)
end classBack
/-- The row, under a short name. -/
theorem classBack_holds : Rows.ClassBackSaid := classBack.over
#print axioms classBack_holds
end Go.Proofs.Ytjbbknjhgdmdkaa
