/- HistorySpans: for whatever records, clip, time and name the law returns true, and the input reads as it did. No condition. -/
import Derived.Test.YtdbkmpnknkldlaaRows
import Derived.Test.YtdbkmpnknkldlaaHNHis
import Derived.Test.YtdbkmpnknkldlaaHStrR
import Derived.Test.YtdbkmpnknkldlaaHRow
set_option linter.unusedVariables false
set_option linter.unusedSimpArgs false
namespace Go.Proofs.Ytdbkmpnknkldlaa
namespace historySpans
open Go.Mo Go.ChangeShapes Go.WideShapes Go.ChangeAt Go.RowKit
open Go.ChangeMaps (open_string shut_string)
theorem rec_of {H : Type} {enc : TypeId × Value → H} {W : World} : ∀ n cs x, DataW.trod enc Try.prog W 0 (fun _ => true) true n 32 cs = some x → ∃ y : Rec, cs = recC y ∧ True := by
  intro n cs x h
  obtain ⟨ysq, yoq_0, yrq, yeq⟩ := trod_flat recAt59 (by kernel_rfl) (by kernel_rfl) h
  obtain ⟨xq_0, zsq_0, zeq_0, yoq_1⟩ := fvs_i yoq_0
  obtain ⟨xq_1, zsq_1, zeq_1, yoq_2⟩ := fvs_i yoq_1
  obtain ⟨xq_2, zsq_2, zeq_2, yoq_3⟩ := fvs_s yoq_2
  obtain ⟨xq_3, zsq_3, zeq_3, zlq_3, yoq_4⟩ := fvs_a yoq_3
  obtain ⟨xq_4, zsq_4, zeq_4, yoq_5⟩ := fvs_s yoq_4
  obtain ⟨xq_5, zsq_5, zeq_5, zlq_5, yoq_6⟩ := fvs_a yoq_5
  obtain ⟨xq_6, zsq_6, zeq_6, zlq_6, yoq_7⟩ := fvs_a yoq_6
  have zeq_n := fvs_nil yoq_7
  subst zeq_0 zeq_1 zeq_2 zeq_3 zeq_4 zeq_5 zeq_6 zeq_n
  exact ⟨⟨xq_0, xq_1, xq_2, ⟨xq_3, zlq_3⟩, xq_4, ⟨xq_5, zlq_5⟩, ⟨xq_6, zlq_6⟩⟩, yeq, trivial⟩
theorem own : ownKnob Try.prog.godebug = none := by kernel_rfl
theorem laidOut : laidOutB Try.prog = true := by kernel_rfl
set_option maxRecDepth 100000 in
theorem lifted (os : Os) (started : os.Started) (H : Type) (enc : TypeId × Value → H) :
    ReturnsInHanded {} Try.checked os 3 .any (Rows.historySpansSpec.pre6 enc Try.prog Try.f3 Rows.historySpansRow.domain false) (Rows.historySpansSpec.post enc Try.prog Try.f3 false true false false) := by
  refine returnsInHanded_of_change_sized (C := Try.checked) own started (by kernel_rfl) Try.func3
    (ChangeSpec.witness6 (enc := enc) (C := Try.checked) false ⟨#[], #[.slice none 0 0, .agg ⟨bys (List.replicate 32 0)⟩, .int .i64 0, .string ByteArray.empty], []⟩ 8 (by kernel_rfl) (by kernel_rfl) (by kernel_rfl) (by kernel_rfl)) ?_
  intro W base args ds gs before hval0 hW hcnd hsz0 _
  have hsz : (DataW.weightsEach Try.prog (Try.f3.params.toList ++ Rows.historySpansSpec.plain.varTypes Try.prog) (ds ++ gs)).all (· ≤ reachBytes) = true := hsz0
  have hval : ∀ (j : Nat) t v, Try.f3.params[j]? = some t → args[j]? = some v → Value.okWide Try.prog W .any base t v := hval0
  have hW' := hW
  obtain ⟨p, q, hA0, hV, rfl, hfz, hnd⟩ := hW
  have hA : DataW.TrodAll enc Try.prog W 0 (fun _ => true) true Try.f3.params.toList args.toList ds p := hA0
  rw [Try.params3] at hA hval hsz
  obtain ⟨v0, vs0, d0, ds0, p0, q0, hargs, rfl, rfl, h0, r0⟩ := trodAll_cons hA
  obtain ⟨v1, vs1, d1, ds1, p1, q1, rfl, rfl, rfl, h1, r1⟩ := trodAll_cons r0
  obtain ⟨v2, vs2, d2, ds2, p2, q2, rfl, rfl, rfl, h2, r2⟩ := trodAll_cons r1
  obtain ⟨v3, vs3, d3, ds3, p3, q3, rfl, rfl, rfl, h3, r3⟩ := trodAll_cons r2
  obtain ⟨rfl, rfl, rfl⟩ := trodAll_nil r3
  obtain rfl : args = #[v0, v1, v2, v3] := by cases args; simp_all
  obtain ⟨rfl, rfl⟩ := trodVars_none hV
  have k0 := h0
  obtain ⟨a0, len0, cap0, rfl⟩ := okWide_slice Try.underlying22 (hval 0 22 v0 rfl rfl)
  obtain ⟨l0, hl0, hf0, s0⟩ := row_of_flat (by decide) Try.underlying22 (by kernel_rfl) recC_len rec_of h0
  have k1 := h1
  obtain ⟨x1, hx1, rfl⟩ := arr_bytes Try.underlying23 Try.underlying5 (by kernel_rfl) (by kernel_rfl) (hval 1 23 v1 rfl rfl) h1
  obtain ⟨a2, rfl, rfl, rfl, w2⟩ := open_int Try.underlying3 (hval 2 3 v2 rfl rfl) h2
  have x2 := wf_i64 w2
  obtain ⟨a3, rfl, rfl, rfl, y3⟩ := open_string Try.underlying9 (hval 3 9 v3 rfl rfl) h3
  have w3 : a3.size ≤ 140737488351232 := by
    have z := sized_string hsz (j := 3) (t := 9) rfl rfl
    rw [Array.length_toList] at z
    exact z
  clear hA0 hval0
  refine (calls_below (law_HistorySpans _ _ l0 ⟨x1, hx1⟩ a2 a3 _ s0)).mono fun e W' ⟨he, bel⟩ => ?_
  subst he
  exact ⟨_, rfl, _, _, _, [], _, [], hW', trodAll_mk1 (shut_bool Try.underlying4 _), (trodAll_cons_mk (Below.trod laidOut (by kernel_rfl) (of_decide_eq_true (by kernel_rfl)) k0 bel (trod_below k0)) (trodAll_cons_mk (Below.trod laidOut (by kernel_rfl) (of_decide_eq_true (by kernel_rfl)) k1 bel (trod_below k1)) (trodAll_cons_mk (shut_int Try.underlying3 w2) (trodAll_cons_mk (shut_string Try.underlying9 y3) trodAll_mk0)))), rfl, bel.frame _, fun h => by cases h⟩
theorem over : Rows.historySpansRow.holds Try.pinned (OpenSpec.ofChange Rows.historySpansSpec) :=
  OpenClaim.holds_of_wide 3 Try.f3 rfl rfl rfl rfl rfl rfl rfl ⟨rfl, rfl, rfl, rfl, rfl⟩ rfl rfl rfl rfl rfl (by kernel_rfl) Try.func3 (by kernel_rfl)
    (of_decide_eq_true (by kernel_rfl)) (by unfold Func.isWrapper; first | (rw [if_pos (by decide +kernel)]; kernel_rfl) | (rw [if_neg (by decide +kernel)]; exact ⟨rfl, rfl⟩))
    (fun os started H enc _ => lifted os started H enc)
end historySpans
/-- The row, under a short name. -/
theorem historySpans_holds : Rows.HistorySpansSaid := historySpans.over
#print axioms historySpans_holds
end Go.Proofs.Ytdbkmpnknkldlaa
