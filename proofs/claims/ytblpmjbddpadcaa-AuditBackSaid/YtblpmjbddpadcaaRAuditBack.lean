/- AuditBack: for whatever records, bytes and sector the law returns true, and the input reads as it did. No condition. -/
import Derived.Test.YtblpmjbddpadcaaRows
import Derived.Test.YtblpmjbddpadcaaMAud
import Derived.Test.YtblpmjbddpadcaaStrR
import Derived.Test.YtblpmjbddpadcaaRow
set_option linter.unusedVariables false
set_option linter.unusedSimpArgs false
namespace Go.Proofs.Ytblpmjbddpadcaa
namespace auditBack
open Go.Mo Go.ChangeShapes Go.WideShapes Go.ChangeAt Go.RowKit
open Go.ChangeMaps (open_string shut_string)
theorem rec_of {H : Type} {enc : TypeId × Value → H} {W : World} : ∀ n cs x, DataW.trod enc Try.prog W 0 (fun _ => true) true n 59 cs = some x → ∃ y : Rec, cs = recC y ∧ True := by
  intro n cs x h
  obtain ⟨ysq, yoq_0, yrq, yeq⟩ := trod_flat recAt59 (by kernel_rfl) (by kernel_rfl) h
  obtain ⟨xq_0, zsq_0, zeq_0, yoq_1⟩ := fvs_i yoq_0
  obtain ⟨xq_1, zsq_1, zeq_1, yoq_2⟩ := fvs_i yoq_1
  obtain ⟨xq_2, zsq_2, zeq_2, yoq_3⟩ := fvs_s yoq_2
  obtain ⟨xq_3, zsq_3, zeq_3, zlq_3, yoq_4⟩ := fvs_a yoq_3
  obtain ⟨xq_4, zsq_4, zeq_4, yoq_5⟩ := fvs_s yoq_4
  obtain ⟨xq_5, zsq_5, zeq_5, zlq_5, yoq_6⟩ := fvs_a yoq_5
  obtain ⟨xq_6, zsq_6, zeq_6, zlq_6, yoq_7⟩ := fvs_a yoq_6
  have zeq_n := fvs_nil yoq_7
  subst zeq_0 zeq_1 zeq_2 zeq_3 zeq_4 zeq_5 zeq_6 zeq_n
  exact ⟨⟨xq_0, xq_1, xq_2, ⟨xq_3, zlq_3⟩, xq_4, ⟨xq_5, zlq_5⟩, ⟨xq_6, zlq_6⟩⟩, yeq, trivial⟩
theorem own : ownKnob Try.prog.godebug = none := by kernel_rfl
theorem laidOut : laidOutB Try.prog = true := by kernel_rfl
set_option maxRecDepth 100000 in
theorem lifted (os : Os) (started : os.Started) (H : Type) (enc : TypeId × Value → H) :
    ReturnsInHanded {} Try.checked os 9 .any (Rows.auditBackSpec.pre6 enc Try.prog Try.f9 Rows.auditBackRow.domain false) (Rows.auditBackSpec.post enc Try.prog Try.f9 false true false false) := by
  refine returnsInHanded_of_change_sized (C := Try.checked) own started (by kernel_rfl) Try.func9
    (ChangeSpec.witness6 (enc := enc) (C := Try.checked) false ⟨#[], #[.slice none 0 0, .slice none 0 0, .agg ⟨bys (List.replicate 256 0)⟩], []⟩ 8 (by kernel_rfl) (by kernel_rfl) (by kernel_rfl) (by kernel_rfl)) ?_
  intro W base args ds gs before hval0 hW hcnd hsz0 _
  have hsz : (DataW.weightsEach Try.prog (Try.f9.params.toList ++ Rows.auditBackSpec.plain.varTypes Try.prog) (ds ++ gs)).all (· ≤ reachBytes) = true := hsz0
  have hval : ∀ (j : Nat) t v, Try.f9.params[j]? = some t → args[j]? = some v → Value.okWide Try.prog W .any base t v := hval0
  have hW' := hW
  obtain ⟨p, q, hA0, hV, rfl, hfz, hnd⟩ := hW
  have hA : DataW.TrodAll enc Try.prog W 0 (fun _ => true) true Try.f9.params.toList args.toList ds p := hA0
  rw [Try.params9] at hA hval hsz
  obtain ⟨v0, vs0, d0, ds0, p0, q0, hargs, rfl, rfl, h0, r0⟩ := trodAll_cons hA
  obtain ⟨v1, vs1, d1, ds1, p1, q1, rfl, rfl, rfl, h1, r1⟩ := trodAll_cons r0
  obtain ⟨v2, vs2, d2, ds2, p2, q2, rfl, rfl, rfl, h2, r2⟩ := trodAll_cons r1
  obtain ⟨rfl, rfl, rfl⟩ := trodAll_nil r2
  obtain rfl : args = #[v0, v1, v2] := by cases args; simp_all
  obtain ⟨rfl, rfl⟩ := trodVars_none hV
  have k0 := h0
  obtain ⟨a0, len0, cap0, rfl⟩ := okWide_slice Try.underlying56 (hval 0 56 v0 rfl rfl)
  obtain ⟨l0, hl0, hf0, s0⟩ := row_of_flat (by decide) Try.underlying56 (by kernel_rfl) recC_len rec_of h0
  obtain ⟨a1, len1, cap1, rfl⟩ := okWide_slice Try.underlying39 (hval 1 39 v1 rfl rfl)
  have k1 := h1
  obtain ⟨z1, w1⟩ := row_of_ints Try.underlying39 Try.underlying5 (by kernel_rfl) h1
  obtain ⟨l1, s1⟩ := sl_bytes w1
  have k2 := h2
  obtain ⟨x2, hx2, rfl⟩ := arr_bytes Try.underlying44 Try.underlying5 (by kernel_rfl) (by kernel_rfl) (hval 2 44 v2 rfl rfl) h2
  clear hA0 hval0
  refine (calls_below (law_AuditBack _ _ _ _ l0 l1 x2 _ s0 s1 hx2)).mono fun e W' ⟨he, bel⟩ => ?_
  subst he
  exact ⟨_, rfl, _, _, _, [], _, [], hW', trodAll_mk1 (shut_bool Try.underlying4 _), (trodAll_cons_mk (Below.trod laidOut (by kernel_rfl) (of_decide_eq_true (by kernel_rfl)) k0 bel (trod_below k0)) (trodAll_cons_mk (Below.trod laidOut (by kernel_rfl) (of_decide_eq_true (by kernel_rfl)) k1 bel (trod_below k1)) (trodAll_cons_mk (Below.trod laidOut (by kernel_rfl) (of_decide_eq_true (by kernel_rfl)) k2 bel (trod_below k2)) trodAll_mk0))), rfl, bel.frame _, fun h => by cases h⟩
theorem over : Rows.auditBackRow.holds Try.pinned (OpenSpec.ofChange Rows.auditBackSpec) :=
  OpenClaim.holds_of_wide 9 Try.f9 rfl rfl rfl rfl rfl rfl rfl ⟨rfl, rfl, rfl, rfl, rfl⟩ rfl rfl rfl rfl rfl (by kernel_rfl) Try.func9 (by kernel_rfl)
    (of_decide_eq_true (by kernel_rfl)) (by unfold Func.isWrapper; first | (rw [if_pos (by decide +kernel)]; kernel_rfl) | (rw [if_neg (by decide +kernel)]; exact ⟨rfl, rfl⟩))
    (fun os started H enc _ => lifted os started H enc)
end auditBack
/-- The row, under a short name. -/
theorem auditBack_holds : Rows.AuditBackSaid := auditBack.over
#print axioms auditBack_holds
end Go.Proofs.Ytblpmjbddpadcaa
