/- MaskFinds: for whatever plan, sectors and bytes the law returns true, and the input reads as it did. No condition. -/
import Derived.Test.YtblpmjbddpadcaaRows
import Derived.Test.YtblpmjbddpadcaaLMask
import Derived.Test.YtblpmjbddpadcaaStrR
import Derived.Test.YtblpmjbddpadcaaRow
set_option linter.unusedVariables false
set_option linter.unusedSimpArgs false
namespace Go.Proofs.Ytblpmjbddpadcaa
namespace maskFinds
open Go.Mo Go.ChangeShapes Go.WideShapes Go.ChangeAt Go.RowKit
open Go.ChangeMaps (open_string shut_string)
theorem plAt : FlatAt Try.prog 23 [.i .i64, .i .i64, .i .i64, .i .i64] := flatAt_of (by kernel_rfl)
theorem sec_of {H : Type} {enc : TypeId × Value → H} {W : World} : ∀ n cs x, DataW.trod enc Try.prog W 0 (fun _ => true) true n 44 cs = some x → ∃ y : Sec, cs = seC y ∧ True := by
  intro n cs x h
  obtain ⟨l, hl, e⟩ := trod_arrB Try.underlying44 Try.underlying5 (by kernel_rfl) (by kernel_rfl) h
  exact ⟨⟨l, hl⟩, e, trivial⟩
theorem own : ownKnob Try.prog.godebug = none := by kernel_rfl
theorem laidOut : laidOutB Try.prog = true := by kernel_rfl
set_option maxRecDepth 100000 in
theorem lifted (os : Os) (started : os.Started) (H : Type) (enc : TypeId × Value → H) :
    ReturnsInHanded {} Try.checked os 4 .any (Rows.maskFindsSpec.pre6 enc Try.prog Try.f4 Rows.maskFindsRow.domain false) (Rows.maskFindsSpec.post enc Try.prog Try.f4 false true false false) := by
  refine returnsInHanded_of_change_sized (C := Try.checked) own started (by kernel_rfl) Try.func4
    (ChangeSpec.witness6 (enc := enc) (C := Try.checked) false ⟨#[], #[.agg ⟨plC ⟨0, 0, 0, 0⟩⟩, .slice none 0 0, .slice none 0 0], []⟩ 8 (by kernel_rfl) (by kernel_rfl) (by kernel_rfl) (by kernel_rfl)) ?_
  intro W base args ds gs before hval0 hW hcnd hsz0 _
  have hsz : (DataW.weightsEach Try.prog (Try.f4.params.toList ++ Rows.maskFindsSpec.plain.varTypes Try.prog) (ds ++ gs)).all (· ≤ reachBytes) = true := hsz0
  have hval : ∀ (j : Nat) t v, Try.f4.params[j]? = some t → args[j]? = some v → Value.okWide Try.prog W .any base t v := hval0
  have hW' := hW
  obtain ⟨p, q, hA0, hV, rfl, hfz, hnd⟩ := hW
  have hA : DataW.TrodAll enc Try.prog W 0 (fun _ => true) true Try.f4.params.toList args.toList ds p := hA0
  rw [Try.params4] at hA hval hsz
  obtain ⟨v0, vs0, d0, ds0, p0, q0, hargs, rfl, rfl, h0, r0⟩ := trodAll_cons hA
  obtain ⟨v1, vs1, d1, ds1, p1, q1, rfl, rfl, rfl, h1, r1⟩ := trodAll_cons r0
  obtain ⟨v2, vs2, d2, ds2, p2, q2, rfl, rfl, rfl, h2, r2⟩ := trodAll_cons r1
  obtain ⟨rfl, rfl, rfl⟩ := trodAll_nil r2
  obtain rfl : args = #[v0, v1, v2] := by cases args; simp_all
  obtain ⟨rfl, rfl⟩ := trodVars_none hV
  have k0 := h0
  obtain ⟨ys0, yo0_0, yr0, ye0⟩ := flat_of plAt (by kernel_rfl) (by kernel_rfl) (hval 0 23 v0 rfl rfl) h0
  obtain ⟨x0_0, zs0_0, ze0_0, yo0_1⟩ := fvs_i yo0_0
  obtain ⟨x0_1, zs0_1, ze0_1, yo0_2⟩ := fvs_i yo0_1
  obtain ⟨x0_2, zs0_2, ze0_2, yo0_3⟩ := fvs_i yo0_2
  obtain ⟨x0_3, zs0_3, ze0_3, yo0_4⟩ := fvs_i yo0_3
  have ze0_n := fvs_nil yo0_4
  subst ze0_0 ze0_1 ze0_2 ze0_3 ze0_n
  obtain ⟨q0, rfl⟩ : ∃ p : Pl, v0 = .agg ⟨plC p⟩ := ⟨⟨x0_0, x0_1, x0_2, x0_3⟩, ye0⟩
  have k1 := h1
  obtain ⟨a1, len1, cap1, rfl⟩ := okWide_slice Try.underlying24 (hval 1 24 v1 rfl rfl)
  obtain ⟨l1, hl1, hf1, s1⟩ := row_of_flat (by decide) Try.underlying24 (by kernel_rfl) seC_len sec_of h1
  obtain ⟨a2, len2, cap2, rfl⟩ := okWide_slice Try.underlying39 (hval 2 39 v2 rfl rfl)
  have k2 := h2
  obtain ⟨z2, w2⟩ := row_of_ints Try.underlying39 Try.underlying5 (by kernel_rfl) h2
  obtain ⟨l2, s2⟩ := sl_bytes w2
  clear hA0 hval0
  refine (calls_below (law_MaskFinds q0 _ _ _ _ l1 l2 _ s1 s2)).mono fun e W' ⟨he, bel⟩ => ?_
  subst he
  exact ⟨_, rfl, _, _, _, [], _, [], hW', trodAll_mk1 (shut_bool Try.underlying4 _), (trodAll_cons_mk (Below.trod laidOut (by kernel_rfl) (of_decide_eq_true (by kernel_rfl)) k0 bel (trod_below k0)) (trodAll_cons_mk (Below.trod laidOut (by kernel_rfl) (of_decide_eq_true (by kernel_rfl)) k1 bel (trod_below k1)) (trodAll_cons_mk (Below.trod laidOut (by kernel_rfl) (of_decide_eq_true (by kernel_rfl)) k2 bel (trod_below k2)) trodAll_mk0))), rfl, bel.frame _, fun h => by cases h⟩
theorem over : Rows.maskFindsRow.holds Try.pinned (OpenSpec.ofChange Rows.maskFindsSpec) :=
  OpenClaim.holds_of_wide 4 Try.f4 rfl rfl rfl rfl rfl rfl rfl ⟨rfl, rfl, rfl, rfl, rfl⟩ rfl rfl rfl rfl rfl (by kernel_rfl) Try.func4 (by kernel_rfl)
    (of_decide_eq_true (by kernel_rfl)) (by unfold Func.isWrapper; first | (rw [if_pos (by decide +kernel)]; kernel_rfl) | (rw [if_neg (by decide +kernel)]; exact ⟨rfl, rfl⟩))
    (fun os started H enc _ => lifted os started H enc)
end maskFinds
/-- The row, under a short name. -/
theorem maskFinds_holds : Rows.MaskFindsSaid := maskFinds.over
#print axioms maskFinds_holds
end Go.Proofs.Ytblpmjbddpadcaa
