/- LeafBack: for whatever text, sector and number the law returns true, and the input reads as it did. No condition. -/
import Derived.Test.YtjbbknjhgdmdkaaRows
import Derived.Test.YtjbbknjhgdmdkaaLLeaf
import Derived.Test.YtjbbknjhgdmdkaaTextR
import Derived.Test.YtjbbknjhgdmdkaaRow
set_option linter.unusedVariables false
set_option linter.unusedSimpArgs false
namespace Go.Proofs.Ytjbbknjhgdmdkaa
namespace leafBack
open Go.Mo Go.ChangeShapes Go.WideShapes Go.ChangeAt Go.RowKit
open Go.ChangeMaps (open_string shut_string)
theorem textAt : TextAt Try.prog 72 := ⟨_, _, _, _, _, _, _, Try.underlying72, by kernel_rfl, rfl, rfl, rfl, rfl, ⟨rfl, Try.underlying70, by kernel_rfl, Try.underlying5, by kernel_rfl⟩, ⟨rfl, Try.underlying3, by kernel_rfl⟩, ⟨rfl, Try.underlying57, by kernel_rfl, Try.underlying3, by kernel_rfl⟩, ⟨rfl, Try.underlying3, by kernel_rfl⟩⟩
theorem own : ownKnob Try.prog.godebug = none := by kernel_rfl
theorem laidOut : laidOutB Try.prog = true := by kernel_rfl
set_option maxRecDepth 100000 in
theorem lifted (os : Os) (started : os.Started) (H : Type) (enc : TypeId × Value → H) :
    ReturnsInHanded {} Try.checked os 8 .any (Rows.leafBackSpec.pre6 enc Try.prog Try.f8 Rows.leafBackRow.domain false) (Rows.leafBackSpec.post enc Try.prog Try.f8 false true false false) := by
  refine returnsInHanded_of_change_sized (C := Try.checked) own started (by kernel_rfl) Try.func8
    (ChangeSpec.witness6 (enc := enc) (C := Try.checked) false ⟨#[], #[.agg ⟨textC (List.replicate 32 0) 0 (.slice none 0 0) 0⟩, .agg ⟨bys (List.replicate 256 0)⟩, .int .i64 0], []⟩ 8 (by kernel_rfl) (by kernel_rfl) (by kernel_rfl) (by kernel_rfl)) ?_
  intro W base args ds gs before hval0 hW hcnd hsz0 _
  have hsz : (DataW.weightsEach Try.prog (Try.f8.params.toList ++ Rows.leafBackSpec.plain.varTypes Try.prog) (ds ++ gs)).all (· ≤ reachBytes) = true := hsz0
  have hval : ∀ (j : Nat) t v, Try.f8.params[j]? = some t → args[j]? = some v → Value.okWide Try.prog W .any base t v := hval0
  have hW' := hW
  obtain ⟨p, q, hA0, hV, rfl, hfz, hnd⟩ := hW
  have hA : DataW.TrodAll enc Try.prog W 0 (fun _ => true) true Try.f8.params.toList args.toList ds p := hA0
  rw [Try.params8] at hA hval hsz
  obtain ⟨v0, vs0, d0, ds0, p0, q0, hargs, rfl, rfl, h0, r0⟩ := trodAll_cons hA
  obtain ⟨v1, vs1, d1, ds1, p1, q1, rfl, rfl, rfl, h1, r1⟩ := trodAll_cons r0
  obtain ⟨v2, vs2, d2, ds2, p2, q2, rfl, rfl, rfl, h2, r2⟩ := trodAll_cons r1
  obtain ⟨rfl, rfl, rfl⟩ := trodAll_nil r2
  obtain rfl : args = #[v0, v1, v2] := by cases args; simp_all
  obtain ⟨rfl, rfl⟩ := trodVars_none hV
  have k0 := h0
  obtain ⟨a0, s0, A0, n0, c0, b0, z0, rfl, ha0, w0, sz0, bz0⟩ := text_of textAt (hval 0 72 v0 rfl rfl) h0
  obtain ⟨l0, hl0, hw0, q0⟩ := sl_ints w0
  have k1 := h1
  obtain ⟨x1, hx1, rfl⟩ := arr_bytes Try.underlying67 Try.underlying5 (by kernel_rfl) (by kernel_rfl) (hval 1 67 v1 rfl rfl) h1
  obtain ⟨a2, rfl, rfl, rfl, w2⟩ := open_int Try.underlying3 (hval 2 3 v2 rfl rfl) h2
  have x2 := wf_i64 w2
  clear hA0 hval0
  refine (calls_below (law_LeafBack a0 s0 _ b0 n0 l0 x1 a2 _ ha0 q0 sz0 hx1)).mono fun e W' ⟨he, bel⟩ => ?_
  subst he
  exact ⟨_, rfl, _, _, _, [], _, [], hW', trodAll_mk1 (shut_bool Try.underlying4 _), (trodAll_cons_mk (Below.trod laidOut (by kernel_rfl) (of_decide_eq_true (by kernel_rfl)) k0 bel (trod_below k0)) (trodAll_cons_mk (Below.trod laidOut (by kernel_rfl) (of_decide_eq_true (by kernel_rfl)) k1 bel (trod_below k1)) (trodAll_cons_mk (shut_int Try.underlying3 w2) trodAll_mk0))), rfl, bel.frame _, fun h => by cases h⟩
theorem over : Rows.leafBackRow.holds Try.pinned (OpenSpec.ofChange Rows.leafBackSpec) :=
  OpenClaim.holds_of_wide 8 Try.f8 rfl rfl rfl rfl rfl rfl rfl ⟨rfl, rfl, rfl, rfl, rfl⟩ rfl rfl rfl rfl rfl (by kernel_rfl) Try.func8 (by kernel_rfl)
    (of_decide_eq_true (by kernel_rfl)) (by unfold Func.isWrapper; first | (rw [if_pos (by decide +kernel)]; kernel_rfl) | (rw [if_neg (by decide +kernel)]; exact ⟨rfl, rfl⟩))
    (fun os started H enc _ => lifted os started H enc)
end leafBack
/-- The row, under a short name. -/
theorem leafBack_holds : Rows.LeafBackSaid := leafBack.over
#print axioms leafBack_holds
end Go.Proofs.Ytjbbknjhgdmdkaa
