/- LeafOne: for whatever two texts the law returns true, and the input reads as it did. No condition. -/
import Derived.Test.YtjbbknjhgdmdkaaRows
import Derived.Test.YtjbbknjhgdmdkaaLLeaf
import Derived.Test.YtjbbknjhgdmdkaaTextR
import Derived.Test.YtjbbknjhgdmdkaaRow
set_option linter.unusedVariables false
set_option linter.unusedSimpArgs false
namespace Go.Proofs.Ytjbbknjhgdmdkaa
namespace leafOne
open Go.Mo Go.ChangeShapes Go.WideShapes Go.ChangeAt Go.RowKit
open Go.ChangeMaps (open_string shut_string)
theorem textAt : TextAt Try.prog 72 := ⟨_, _, _, _, _, _, _, Try.underlying72, by kernel_rfl, rfl, rfl, rfl, rfl, ⟨rfl, Try.underlying70, by kernel_rfl, Try.underlying5, by kernel_rfl⟩, ⟨rfl, Try.underlying3, by kernel_rfl⟩, ⟨rfl, Try.underlying57, by kernel_rfl, Try.underlying3, by kernel_rfl⟩, ⟨rfl, Try.underlying3, by kernel_rfl⟩⟩
theorem own : ownKnob Try.prog.godebug = none := by kernel_rfl
theorem laidOut : laidOutB Try.prog = true := by kernel_rfl
set_option maxRecDepth 100000 in
theorem lifted (os : Os) (started : os.Started) (H : Type) (enc : TypeId × Value → H) :
    ReturnsInHanded {} Try.checked os 9 .any (Rows.leafOneSpec.pre6 enc Try.prog Try.f9 Rows.leafOneRow.domain false) (Rows.leafOneSpec.post enc Try.prog Try.f9 false true false false) := by
  refine returnsInHanded_of_change_sized (C := Try.checked) own started (by kernel_rfl) Try.func9
    (ChangeSpec.witness6 (enc := enc) (C := Try.checked) false ⟨#[], #[.agg ⟨textC (List.replicate 32 0) 0 (.slice none 0 0) 0⟩, .agg ⟨textC (List.replicate 32 0) 0 (.slice none 0 0) 0⟩], []⟩ 8 (by kernel_rfl) (by kernel_rfl) (by kernel_rfl) (by kernel_rfl)) ?_
  intro W base args ds gs before hval0 hW hcnd hsz0 _
  have hsz : (DataW.weightsEach Try.prog (Try.f9.params.toList ++ Rows.leafOneSpec.plain.varTypes Try.prog) (ds ++ gs)).all (· ≤ reachBytes) = true := hsz0
  have hval : ∀ (j : Nat) t v, Try.f9.params[j]? = some t → args[j]? = some v → Value.okWide Try.prog W .any base t v := hval0
  have hW' := hW
  obtain ⟨p, q, hA0, hV, rfl, hfz, hnd⟩ := hW
  have hA : DataW.TrodAll enc Try.prog W 0 (fun _ => true) true Try.f9.params.toList args.toList ds p := hA0
  rw [Try.params9] at hA hval hsz
  obtain ⟨v0, vs0, d0, ds0, p0, q0, hargs, rfl, rfl, h0, r0⟩ := trodAll_cons hA
  obtain ⟨v1, vs1, d1, ds1, p1, q1, rfl, rfl, rfl, h1, r1⟩ := trodAll_cons r0
  obtain ⟨rfl, rfl, rfl⟩ := trodAll_nil r1
  obtain rfl : args = #[v0, v1] := by cases args; simp_all
  obtain ⟨rfl, rfl⟩ := trodVars_none hV
  have k0 := h0
  obtain ⟨a0, s0, A0, n0, c0, b0, z0, rfl, ha0, w0, sz0, bz0⟩ := text_of textAt (hval 0 72 v0 rfl rfl) h0
  obtain ⟨l0, hl0, hw0, q0⟩ := sl_ints w0
  have k1 := h1
  obtain ⟨a1, s1, A1, n1, c1, b1, z1, rfl, ha1, w1, sz1, bz1⟩ := text_of textAt (hval 1 72 v1 rfl rfl) h1
  obtain ⟨l1, hl1, hw1, q1⟩ := sl_ints w1
  clear hA0 hval0
  refine (calls_below (law_LeafOne a0 s0 _ b0 n0 l0 a1 s1 _ b1 n1 l1 _ ha0 q0 sz0 ha1 q1 sz1)).mono fun e W' ⟨he, bel⟩ => ?_
  subst he
  exact ⟨_, rfl, _, _, _, [], _, [], hW', trodAll_mk1 (shut_bool Try.underlying4 _), (trodAll_cons_mk (Below.trod laidOut (by kernel_rfl) (of_decide_eq_true (by kernel_rfl)) k0 bel (trod_below k0)) (trodAll_cons_mk (Below.trod laidOut (by kernel_rfl) (of_decide_eq_true (by kernel_rfl)) k1 bel (trod_below k1)) trodAll_mk0)), rfl, bel.frame _, fun h => by cases h⟩
theorem over : Rows.leafOneRow.holds Try.pinned (OpenSpec.ofChange Rows.leafOneSpec) :=
  OpenClaim.holds_of_wide 9 Try.f9 rfl rfl rfl rfl rfl rfl rfl ⟨rfl, rfl, rfl, rfl, rfl⟩ rfl rfl rfl rfl rfl (by kernel_rfl) Try.func9 (by kernel_rfl)
    (of_decide_eq_true (by kernel_rfl)) (by unfold Func.isWrapper; first | (rw [if_pos (by decide +kernel)]; kernel_rfl) | (rw [if_neg (by decide +kernel)]; exact ⟨rfl, rfl⟩))
    (fun os started H enc _ => lifted os started H enc)
end leafOne
/-- The row, under a short name. -/
theorem leafOne_holds : Rows.LeafOneSaid := leafOne.over
#print axioms leafOne_holds
end Go.Proofs.Ytjbbknjhgdmdkaa
