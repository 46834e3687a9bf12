/- Walks of functions of the program. -/
import Derived.Test.YtblpmjbddpadcaaZFBiG
import Derived.Test.YtblpmjbddpadcaaZBinN
set_option linter.unusedVariables false
set_option linter.unusedSimpArgs false
namespace Go.Proofs.Ytblpmjbddpadcaa
open Go.Mo Go.RowKit
set_option maxHeartbeats 1000000 in
theorem ref_bGet (x : List UInt8) (m k : Int) (w0 : World) (hx : x.length = 256) : Does Try.prog 69 #[.agg ⟨bys x⟩, .int .i64 m, .int .i64 k] w0 fun v w' => ∃ hv tv, v = .tuple #[.agg ⟨clipC (gV x m k) hv tv⟩, .bool (gOk x m k), .bool (gR x m k)] ∧ Hp w0 [] w' [.row 3 1 tv (gV x m k).texts.length ((gV x m k).texts.map (Value.int .i64)), .row 9 1 hv (gV x m k).holds.length ((gV x m k).holds.map Value.string)] := by
 have hH5 : fNh x ≤ 5 := by unfold fNh; omega
 have hT5 : fNt x ≤ 5 := by unfold fNt; omega
 have hAt : fAt x ≤ 163 := by unfold fAt; omega
 refine does_of (l := [.agg ⟨bys x⟩, .int .i64 m, .int .i64 k]) Try.func69 (by kernel_rfl) rfl Try.ntmps69 rfl rfl ?_
 have hp := Hp.refl w0 []
 refine GW_seq ?_
 refine GW_region ?_
 refine GL_box (wn_none rfl) rfl rfl rfl rfl hp ?_
 intro g w hp
 refine GL_alloc (wn_none rfl) rfl rfl tz83 rfl hp ?_
 intro g2 w hp
 refine GL_rd (v := .bool _) (wn_none rfl) rfl (rd_assign rfl rfl) ?_
 refine GL_rd (v := .bool _) (wn_none rfl) rfl (rd_assign rfl rfl) ?_
 refine GL_nil ?_
 refine GW_seq ?_
 refine GW_seq ?_
 refine GW_region ?_
 refine GL_rd (wn_none rfl) rfl (rd_loadC rfl rfl Try.underlying44 rfl ts44 (hp.get 1 rfl) (by rw [bys_length, hx])) ?_
 refine GL_rd (wn_none rfl) rfl (rd_buildA (L := bys (List.replicate 256 0)) rfl tz44 Try.underlying44 ts5 (by kernel_rfl)) ?_
 refine GL_rd (wn_none rfl) rfl (rd_bin rfl rfl rfl (bo_arrB Try.underlying44 Try.underlying5 ts5 (by kernel_rfl) hx List.length_replicate).1) ?_
 refine GL_nil ?_
 refine GW_cond rfl (fun hb => ?_) (fun hb => ?_)
 ·(try simp only [decide_eq_true_eq, decide_eq_false_iff_not, Bool.not_eq_true', Bool.not_eq_false', Bool.not_eq_eq_eq_not, Bool.not_true, Bool.not_false, Int.not_lt, Int.not_le] at hb)
  have hz : gZ x := hb
  refine GW_seq ?_
  refine GW_region ?_
  refine GL_rd (wn_none rfl) rfl (rd_buildS (L := clpZc) rfl tz83 pl83 (by kernel_rfl)) ?_
  refine GL_store (i := 0) (wn_none rfl) rfl rfl rfl rfl ts83 rfl rfl (by rw [clpZ_c]; exact clipC_one _ _ _ _ _ _ _) hp rfl (by decide) (splice_all _ _ rfl) ?_
  intro w hp
  refine GL_rd (v := .bool _) (wn_none rfl) rfl (rd_assign rfl rfl) ?_
  refine GL_rd (v := .bool _) (wn_none rfl) rfl (rd_assign rfl rfl) ?_
  refine GL_nil ?_
  refine GW_ret ?_
  have hbad : gOk x m k = false := gOk_not hx (fun hh => hh.1 hz)
  have hE : gR x m k = true := gR_z hz
  refine ⟨_, res3 Try.results69 (rv_cell rfl rfl Try.underlying83 rfl ts83 (by first | exact clipC_len _ _ _ | rfl) (hp.get 0 rfl)) (rv_tmp (v := .bool _) rfl rfl) (rv_tmp (v := .bool _) rfl rfl), .slice none 0 0, .slice none 0 0, by rw [gV_no hbad, hbad, hE, ← clpZ_c], ?_⟩
  rw [gV_no hbad]
  exact (hp.mods.nilRow 9 1).nilRow 3 1
 ·(try simp only [decide_eq_true_eq, decide_eq_false_iff_not, Bool.not_eq_true', Bool.not_eq_false', Bool.not_eq_eq_eq_not, Bool.not_true, Bool.not_false, Int.not_lt, Int.not_le] at hb)
  have hz : ¬ gZ x := hb
  refine GW_skip ?_
  refine GW_cut (fun f_0 w' => ∃ (g3 : Nat) (fz : _), f_0 = (upd (upd (upd (upd (upd fz 1 (.int .i64 m)) 2 (.int .i64 k)) 3 (.pointer (some ⟨g, 0, none⟩))) 6 (.pointer (some ⟨g2, 0, none⟩))) 9 (.pointer (some ⟨g3, 0, none⟩))) ∧ Hp w0 [] w' [cells g3 83 (clipC (fD x (adF x 0) ⟨#[]⟩) (.slice none 0 0) (.slice none 0 0)), cells g2 83 (clipC clpZ (.slice none 0 0) (.slice none 0 0)), cells g 44 (bys x)]) ?_ ?_
  ·skip
   refine GW_drawnK 16 (.one 0 true (.one 1 true (.one 2 true (.one 3 true (.one 7 true (.one 8 true (.one 9 true (.one 10 true (.two 4 15 (.two 5 15 (.one 6 true (.two 11 15 (.two 12 15 (.one 13 true (.one 14 true (.one 15 false (.one 16 false .nil)))) (.one 12 false (.one 13 true (.one 14 true (.one 16 false .nil))))) (.one 11 false (.one 12 false (.one 13 true (.one 14 true (.one 16 false .nil))))))) (.one 5 false (.one 6 true (.one 11 false (.one 12 false (.one 13 true (.one 14 true (.one 16 false .nil)))))))) (.one 4 false (.one 5 false (.one 6 true (.one 11 false (.one 12 false (.one 13 true (.one 14 true (.one 16 false .nil))))))))))))))))) mixed (by kernel_rfl) hp (fun _ h => (h.sub (.cons _ (.cons_cons _ .slnil)))) fun w hp => ?_
   have hpS := (hp.sub (.cons _ (.cons_cons _ .slnil)))
   refine GO_rdT rfl (wn_none rfl) rfl (fun w => (rd_indexA (j := 36) rfl rfl rfl Try.underlying44 ts5 rfl (by decide) _ rfl)) ?_
   refine GO_rd rfl rfl (wn_none rfl) rfl hpS (fun w hp => (rd_load rfl rfl Try.underlying5 rfl ((cell_of_cells (hp.get 0 rfl) _).trans (byte_at1 hx (by omega))))) ?_
   refine GO_rd rfl rfl (wn_none rfl) rfl hpS (fun w hp => (rd_conv8 .i64 rfl rfl Try.underlying3 Try.underlying5 (by simp))) ?_
   refine GO_rd rfl rfl (wn_none rfl) rfl hpS (fun w hp => (rd_loadC rfl rfl Try.underlying44 rfl ts44 (hp.get 0 rfl) (by rw [bys_length, hx]))) ?_
   refine GO_rdT rfl (wn_none rfl) rfl (fun w => (rd_indexA (j := 43) rfl rfl rfl Try.underlying44 ts5 rfl (by decide) _ rfl)) ?_
   refine GO_rd rfl rfl (wn_none rfl) rfl hpS (fun w hp => (rd_load rfl rfl Try.underlying5 rfl ((cell_of_cells (hp.get 0 rfl) _).trans (byte_at1 hx (by omega))))) ?_
   refine GO_rd rfl rfl (wn_none rfl) rfl hpS (fun w hp => (rd_bin rfl rfl rfl bo_eql)) ?_
   refine GO_rd rfl rfl (wn_none rfl) rfl hpS (fun w hp => (rd_loadC rfl rfl Try.underlying44 rfl ts44 (hp.get 0 rfl) (by rw [bys_length, hx]))) ?_
   refine GO_two rfl rfl ?_ ?_
   ·skip
    refine GC_of_GL ?_
    refine GL_call (wn_none rfl) rfl rfl (ref_bcut x 37 6 _ hx (by omega)) rfl ?_
    intro qc w hk
    have hp := hp.comp hk
    have hpS2 := (hp.sub (.cons _ (.cons _ (.cons_cons _ .slnil))))
    refine GL_nil ⟨fun _ => hpS2, ?_⟩
    refine GO_grow hp (fun _ h => (h.sub (.cons_cons _ (.cons _ (.cons_cons _ .slnil))))) (fun _ h => (h.sub (.cons _ (.cons_cons _ .slnil)))) fun hpS3 => ?_
    refine GO_two rfl rfl ?_ ?_
    ·skip
     refine GC_of_GL ?_
     refine GL_call (wn_none rfl) rfl rfl (ref_Get 6 _ 6 _ _ (Sl.row (hp.get 0 rfl)) rfl) rfl ?_
     rintro _ w ⟨rfl, hk⟩
     have hp := hp.comp hk
     have hpS4 := (hp.sub (.cons_cons _ (.cons _ (.cons_cons _ .slnil))))
     refine GL_nil ⟨fun _ => hpS4, ?_⟩
     refine GO_rd rfl rfl (wn_none rfl) rfl hpS4 (fun w hp => (rd_convE (q := ((getL ((x.drop 37).take 6)) : Int)) rfl rfl Try.underlying3 Try.underlying160 (by simp) (by rw [sa_get x (by decide) (by omega)]; exact IntWalk.i64_in _ (by have := get6_lt x 37; omega)))) ?_
     refine GO_two rfl rfl ?_ ?_
     ·skip
      refine GC_of_GL ?_
      refine GL_call (wn_none rfl) rfl rfl (ref_bcut x 44 6 _ hx (by omega)) rfl ?_
      intro qd w hk
      have hp := hp.comp hk
      have hpS5 := (hp.sub (.cons _ (.cons_cons _ (.cons _ (.cons_cons _ .slnil)))))
      refine GL_nil ⟨fun _ => hpS5, ?_⟩
      refine GO_grow hp (fun _ h => (h.sub (.cons_cons _ (.cons_cons _ (.cons _ (.cons_cons _ .slnil)))))) (fun _ h => (h.sub (.cons _ (.cons_cons _ (.cons_cons _ .slnil))))) fun hpS6 => ?_
      refine GO_two rfl rfl ?_ ?_
      ·skip
       refine GC_of_GL ?_
       refine GL_call (wn_none rfl) rfl rfl (ref_Get 6 _ 6 _ _ (Sl.row (hp.get 0 rfl)) rfl) rfl ?_
       rintro _ w ⟨rfl, hk⟩
       have hp := hp.comp hk
       have hpS7 := (hp.sub (.cons_cons _ (.cons_cons _ (.cons _ (.cons_cons _ .slnil)))))
       refine GL_nil ⟨fun _ => hpS7, ?_⟩
       refine GO_rd rfl rfl (wn_none rfl) rfl hpS7 (fun w hp => (rd_convE (q := ((getL ((x.drop 44).take 6)) : Int)) rfl rfl Try.underlying3 Try.underlying160 (by simp) (by rw [sa_get x (by decide) (by omega)]; exact IntWalk.i64_in _ (by have := get6_lt x 44; omega)))) ?_
       refine GO_rd rfl rfl (wn_none rfl) rfl hpS7 (fun w hp => (rd_buildF (L := (clipC { clpZ with cls := ((x.getD 36 0).toNat : Int), made := ((getL ((x.drop 37).take 6)) : Int), fired := decide (((x.getD 43 0).toNat : Int) = 1), event := ((getL ((x.drop 44).take 6)) : Int) } (.slice none 0 0) (.slice none 0 0))) rfl tz83 pl83 rfl (fill_more 32 1 rfl rfl rfl (by decide) (clip_set0C ((x.getD 36 0).toNat : Int)) (fill_more 33 1 rfl rfl rfl (by rw [clipC_len]; decide) (clip_setM _ _ _ _) (fill_more 34 1 rfl rfl rfl (by rw [clipC_len]; decide) (clip_setF _ _ _ _) (fill_more 35 1 rfl rfl rfl (by rw [clipC_len]; decide) (clip_setE _ _ _ _) (fill_done rfl))))))) ?_
       refine GO_of_GL rfl ?_
       refine GL_alloc (wn_none rfl) rfl rfl tz83 rfl hp ?_
       intro g3 w hp
       have hpS8 := (hp.sub (.cons _ (.cons_cons _ (.cons_cons _ (.cons _ (.cons_cons _ .slnil))))))
       refine GL_nil ⟨fun _ => hpS8, ?_⟩
       refine GO_of_GL rfl ?_
       refine GL_store (i := 0) (wn_none rfl) rfl rfl rfl rfl ts83 rfl (clipC_len _ _ _) (clipC_one _ _ _ _ _ _ _) hp rfl (by decide) (splice_all _ _ (by rw [clipC_len]; rfl)) ?_
       intro w hp
       refine GL_nil ⟨fun h => absurd h (by decide), ?_⟩
       refine GO_nil ?_
       have hp := ((((hp.front 4 rfl).front 4 rfl).front 2 rfl).take 3)
       have hp : Hp w0 [] w [cells g3 83 (clipC (fD x (adF x 0) ⟨#[]⟩) (.slice none 0 0) (.slice none 0 0)), cells g2 83 (clipC clpZ (.slice none 0 0) (.slice none 0 0)), cells g 44 (bys x)] := by rw [adF_0, ← clpZ_c]; simp only [sa_get x (show 6 ≤ 8 by decide) (show 37 + 6 ≤ x.length by omega), sa_get x (show 6 ≤ 8 by decide) (show 44 + 6 ≤ x.length by omega)] at hp; exact hp
       exact ⟨g3, _, slots5 rfl rfl rfl rfl rfl, hp⟩
      ·skip
       refine GC_of_GL ?_
       refine GL_alloc (wn_none rfl) rfl rfl tz83 rfl hp ?_
       intro g4 w hp
       have hpS9 := (hp.sub (.cons _ (.cons_cons _ (.cons_cons _ (.cons _ (.cons_cons _ .slnil))))))
       refine GL_nil ⟨fun _ => hpS9, ?_⟩
       refine GO_of_GL rfl ?_
       refine GL_call (wn_none rfl) rfl rfl (ref_Get 6 _ 6 _ _ (Sl.row (hp.get 1 rfl)) rfl) rfl ?_
       rintro _ w ⟨rfl, hk⟩
       have hp := hp.comp hk
       have hpS10 := (hp.sub (.cons _ (.cons_cons _ (.cons_cons _ (.cons _ (.cons_cons _ .slnil))))))
       refine GL_nil ⟨fun _ => hpS10, ?_⟩
       refine GO_rd rfl rfl (wn_none rfl) rfl hpS10 (fun w hp => (rd_convE (q := ((getL ((x.drop 44).take 6)) : Int)) rfl rfl Try.underlying3 Try.underlying160 (by simp) (by rw [sa_get x (by decide) (by omega)]; exact IntWalk.i64_in _ (by have := get6_lt x 44; omega)))) ?_
       refine GO_rd rfl rfl (wn_none rfl) rfl hpS10 (fun w hp => (rd_buildF (L := (clipC { clpZ with cls := ((x.getD 36 0).toNat : Int), made := ((getL ((x.drop 37).take 6)) : Int), fired := decide (((x.getD 43 0).toNat : Int) = 1), event := ((getL ((x.drop 44).take 6)) : Int) } (.slice none 0 0) (.slice none 0 0))) rfl tz83 pl83 rfl (fill_more 32 1 rfl rfl rfl (by decide) (clip_set0C ((x.getD 36 0).toNat : Int)) (fill_more 33 1 rfl rfl rfl (by rw [clipC_len]; decide) (clip_setM _ _ _ _) (fill_more 34 1 rfl rfl rfl (by rw [clipC_len]; decide) (clip_setF _ _ _ _) (fill_more 35 1 rfl rfl rfl (by rw [clipC_len]; decide) (clip_setE _ _ _ _) (fill_done rfl))))))) ?_
       refine GO_of_GL rfl ?_
       refine GL_store (i := 0) (wn_none rfl) rfl rfl rfl rfl ts83 rfl (clipC_len _ _ _) (clipC_one _ _ _ _ _ _ _) hp rfl (by decide) (splice_all _ _ (by rw [clipC_len]; rfl)) ?_
       intro w hp
       refine GL_nil ⟨fun h => absurd h (by decide), ?_⟩
       refine GO_nil ?_
       have hp := ((((hp.front 4 rfl).front 4 rfl).front 2 rfl).take 3)
       have hp : Hp w0 [] w [cells g4 83 (clipC (fD x (adF x 0) ⟨#[]⟩) (.slice none 0 0) (.slice none 0 0)), cells g2 83 (clipC clpZ (.slice none 0 0) (.slice none 0 0)), cells g 44 (bys x)] := by rw [adF_0, ← clpZ_c]; simp only [sa_get x (show 6 ≤ 8 by decide) (show 37 + 6 ≤ x.length by omega), sa_get x (show 6 ≤ 8 by decide) (show 44 + 6 ≤ x.length by omega)] at hp; exact hp
       exact ⟨g4, _, slots5 rfl rfl rfl rfl rfl, hp⟩
     ·skip
      refine GC_of_GL ?_
      refine GL_alloc (wn_none rfl) rfl rfl tz83 rfl hp ?_
      intro g5 w hp
      have hpS11 := (hp.sub (.cons _ (.cons_cons _ (.cons _ (.cons_cons _ .slnil)))))
      refine GL_nil ⟨fun _ => hpS11, ?_⟩
      refine GO_of_GL rfl ?_
      refine GL_call (wn_none rfl) rfl rfl (ref_bcut x 44 6 _ hx (by omega)) rfl ?_
      intro qd w hk
      have hp := hp.comp hk
      have hpS12 := (hp.sub (.cons _ (.cons _ (.cons_cons _ (.cons _ (.cons_cons _ .slnil))))))
      refine GL_nil ⟨fun _ => hpS12, ?_⟩
      refine GO_grow hp (fun _ h => (h.sub (.cons_cons _ (.cons _ (.cons_cons _ (.cons _ (.cons_cons _ .slnil))))))) (fun _ h => (h.sub (.cons _ (.cons_cons _ (.cons_cons _ .slnil))))) fun hpS13 => ?_
      refine GO_of_GL rfl ?_
      refine GL_call (wn_none rfl) rfl rfl (ref_Get 6 _ 6 _ _ (Sl.row (hp.get 0 rfl)) rfl) rfl ?_
      rintro _ w ⟨rfl, hk⟩
      have hp := hp.comp hk
      have hpS14 := (hp.sub (.cons_cons _ (.cons _ (.cons_cons _ (.cons _ (.cons_cons _ .slnil))))))
      refine GL_nil ⟨fun _ => hpS14, ?_⟩
      refine GO_rd rfl rfl (wn_none rfl) rfl hpS14 (fun w hp => (rd_convE (q := ((getL ((x.drop 44).take 6)) : Int)) rfl rfl Try.underlying3 Try.underlying160 (by simp) (by rw [sa_get x (by decide) (by omega)]; exact IntWalk.i64_in _ (by have := get6_lt x 44; omega)))) ?_
      refine GO_rd rfl rfl (wn_none rfl) rfl hpS14 (fun w hp => (rd_buildF (L := (clipC { clpZ with cls := ((x.getD 36 0).toNat : Int), made := ((getL ((x.drop 37).take 6)) : Int), fired := decide (((x.getD 43 0).toNat : Int) = 1), event := ((getL ((x.drop 44).take 6)) : Int) } (.slice none 0 0) (.slice none 0 0))) rfl tz83 pl83 rfl (fill_more 32 1 rfl rfl rfl (by decide) (clip_set0C ((x.getD 36 0).toNat : Int)) (fill_more 33 1 rfl rfl rfl (by rw [clipC_len]; decide) (clip_setM _ _ _ _) (fill_more 34 1 rfl rfl rfl (by rw [clipC_len]; decide) (clip_setF _ _ _ _) (fill_more 35 1 rfl rfl rfl (by rw [clipC_len]; decide) (clip_setE _ _ _ _) (fill_done rfl))))))) ?_
      refine GO_of_GL rfl ?_
      refine GL_store (i := 1) (wn_none rfl) rfl rfl rfl rfl ts83 rfl (clipC_len _ _ _) (clipC_one _ _ _ _ _ _ _) hp rfl (by decide) (splice_all _ _ (by rw [clipC_len]; rfl)) ?_
      intro w hp
      refine GL_nil ⟨fun h => absurd h (by decide), ?_⟩
      refine GO_nil ?_
      have hp := ((((hp.front 4 rfl).front 4 rfl).front 3 rfl).take 3)
      have hp : Hp w0 [] w [cells g5 83 (clipC (fD x (adF x 0) ⟨#[]⟩) (.slice none 0 0) (.slice none 0 0)), cells g2 83 (clipC clpZ (.slice none 0 0) (.slice none 0 0)), cells g 44 (bys x)] := by rw [adF_0, ← clpZ_c]; simp only [sa_get x (show 6 ≤ 8 by decide) (show 37 + 6 ≤ x.length by omega), sa_get x (show 6 ≤ 8 by decide) (show 44 + 6 ≤ x.length by omega)] at hp; exact hp
      exact ⟨g5, _, slots5 rfl rfl rfl rfl rfl, hp⟩
    ·skip
     refine GC_of_GL ?_
     refine GL_alloc (wn_none rfl) rfl rfl tz83 rfl hp ?_
     intro g6 w hp
     have hpS15 := (hp.sub (.cons _ (.cons_cons _ (.cons _ (.cons_cons _ .slnil)))))
     refine GL_nil ⟨fun _ => hpS15, ?_⟩
     refine GO_of_GL rfl ?_
     refine GL_call (wn_none rfl) rfl rfl (ref_Get 6 _ 6 _ _ (Sl.row (hp.get 1 rfl)) rfl) rfl ?_
     rintro _ w ⟨rfl, hk⟩
     have hp := hp.comp hk
     have hpS16 := (hp.sub (.cons _ (.cons_cons _ (.cons _ (.cons_cons _ .slnil)))))
     refine GL_nil ⟨fun _ => hpS16, ?_⟩
     refine GO_rd rfl rfl (wn_none rfl) rfl hpS16 (fun w hp => (rd_convE (q := ((getL ((x.drop 37).take 6)) : Int)) rfl rfl Try.underlying3 Try.underlying160 (by simp) (by rw [sa_get x (by decide) (by omega)]; exact IntWalk.i64_in _ (by have := get6_lt x 37; omega)))) ?_
     refine GO_of_GL rfl ?_
     refine GL_call (wn_none rfl) rfl rfl (ref_bcut x 44 6 _ hx (by omega)) rfl ?_
     intro qd w hk
     have hp := hp.comp hk
     have hpS17 := (hp.sub (.cons _ (.cons _ (.cons_cons _ (.cons _ (.cons_cons _ .slnil))))))
     refine GL_nil ⟨fun _ => hpS17, ?_⟩
     refine GO_grow hp (fun _ h => (h.sub (.cons_cons _ (.cons _ (.cons_cons _ (.cons _ (.cons_cons _ .slnil))))))) (fun _ h => (h.sub (.cons _ (.cons_cons _ (.cons_cons _ .slnil))))) fun hpS18 => ?_
     refine GO_of_GL rfl ?_
     refine GL_call (wn_none rfl) rfl rfl (ref_Get 6 _ 6 _ _ (Sl.row (hp.get 0 rfl)) rfl) rfl ?_
     rintro _ w ⟨rfl, hk⟩
     have hp := hp.comp hk
     have hpS19 := (hp.sub (.cons_cons _ (.cons _ (.cons_cons _ (.cons _ (.cons_cons _ .slnil))))))
     refine GL_nil ⟨fun _ => hpS19, ?_⟩
     refine GO_rd rfl rfl (wn_none rfl) rfl hpS19 (fun w hp => (rd_convE (q := ((getL ((x.drop 44).take 6)) : Int)) rfl rfl Try.underlying3 Try.underlying160 (by simp) (by rw [sa_get x (by decide) (by omega)]; exact IntWalk.i64_in _ (by have := get6_lt x 44; omega)))) ?_
     refine GO_rd rfl rfl (wn_none rfl) rfl hpS19 (fun w hp => (rd_buildF (L := (clipC { clpZ with cls := ((x.getD 36 0).toNat : Int), made := ((getL ((x.drop 37).take 6)) : Int), fired := decide (((x.getD 43 0).toNat : Int) = 1), event := ((getL ((x.drop 44).take 6)) : Int) } (.slice none 0 0) (.slice none 0 0))) rfl tz83 pl83 rfl (fill_more 32 1 rfl rfl rfl (by decide) (clip_set0C ((x.getD 36 0).toNat : Int)) (fill_more 33 1 rfl rfl rfl (by rw [clipC_len]; decide) (clip_setM _ _ _ _) (fill_more 34 1 rfl rfl rfl (by rw [clipC_len]; decide) (clip_setF _ _ _ _) (fill_more 35 1 rfl rfl rfl (by rw [clipC_len]; decide) (clip_setE _ _ _ _) (fill_done rfl))))))) ?_
     refine GO_of_GL rfl ?_
     refine GL_store (i := 1) (wn_none rfl) rfl rfl rfl rfl ts83 rfl (clipC_len _ _ _) (clipC_one _ _ _ _ _ _ _) hp rfl (by decide) (splice_all _ _ (by rw [clipC_len]; rfl)) ?_
     intro w hp
     refine GL_nil ⟨fun h => absurd h (by decide), ?_⟩
     refine GO_nil ?_
     have hp := ((((hp.front 4 rfl).front 4 rfl).front 3 rfl).take 3)
     have hp : Hp w0 [] w [cells g6 83 (clipC (fD x (adF x 0) ⟨#[]⟩) (.slice none 0 0) (.slice none 0 0)), cells g2 83 (clipC clpZ (.slice none 0 0) (.slice none 0 0)), cells g 44 (bys x)] := by rw [adF_0, ← clpZ_c]; simp only [sa_get x (show 6 ≤ 8 by decide) (show 37 + 6 ≤ x.length by omega), sa_get x (show 6 ≤ 8 by decide) (show 44 + 6 ≤ x.length by omega)] at hp; exact hp
     exact ⟨g6, _, slots5 rfl rfl rfl rfl rfl, hp⟩
   ·skip
    refine GC_of_GL ?_
    refine GL_alloc (wn_none rfl) rfl rfl tz83 rfl hp ?_
    intro g7 w hp
    have hpS20 := (hp.sub (.cons _ (.cons _ (.cons_cons _ .slnil))))
    refine GL_nil ⟨fun _ => hpS20, ?_⟩
    refine GO_of_GL rfl ?_
    refine GL_call (wn_none rfl) rfl rfl (ref_bcut x 37 6 _ hx (by omega)) rfl ?_
    intro qc w hk
    have hp := hp.comp hk
    have hpS21 := (hp.sub (.cons _ (.cons _ (.cons _ (.cons_cons _ .slnil)))))
    refine GL_nil ⟨fun _ => hpS21, ?_⟩
    refine GO_grow hp (fun _ h => (h.sub (.cons_cons _ (.cons _ (.cons _ (.cons_cons _ .slnil)))))) (fun _ h => (h.sub (.cons _ (.cons_cons _ .slnil)))) fun hpS22 => ?_
    refine GO_of_GL rfl ?_
    refine GL_call (wn_none rfl) rfl rfl (ref_Get 6 _ 6 _ _ (Sl.row (hp.get 0 rfl)) rfl) rfl ?_
    rintro _ w ⟨rfl, hk⟩
    have hp := hp.comp hk
    have hpS23 := (hp.sub (.cons_cons _ (.cons _ (.cons _ (.cons_cons _ .slnil)))))
    refine GL_nil ⟨fun _ => hpS23, ?_⟩
    refine GO_rd rfl rfl (wn_none rfl) rfl hpS23 (fun w hp => (rd_convE (q := ((getL ((x.drop 37).take 6)) : Int)) rfl rfl Try.underlying3 Try.underlying160 (by simp) (by rw [sa_get x (by decide) (by omega)]; exact IntWalk.i64_in _ (by have := get6_lt x 37; omega)))) ?_
    refine GO_of_GL rfl ?_
    refine GL_call (wn_none rfl) rfl rfl (ref_bcut x 44 6 _ hx (by omega)) rfl ?_
    intro qd w hk
    have hp := hp.comp hk
    have hpS24 := (hp.sub (.cons _ (.cons_cons _ (.cons _ (.cons _ (.cons_cons _ .slnil))))))
    refine GL_nil ⟨fun _ => hpS24, ?_⟩
    refine GO_grow hp (fun _ h => (h.sub (.cons_cons _ (.cons_cons _ (.cons _ (.cons _ (.cons_cons _ .slnil))))))) (fun _ h => (h.sub (.cons _ (.cons_cons _ (.cons_cons _ .slnil))))) fun hpS25 => ?_
    refine GO_of_GL rfl ?_
    refine GL_call (wn_none rfl) rfl rfl (ref_Get 6 _ 6 _ _ (Sl.row (hp.get 0 rfl)) rfl) rfl ?_
    rintro _ w ⟨rfl, hk⟩
    have hp := hp.comp hk
    have hpS26 := (hp.sub (.cons_cons _ (.cons_cons _ (.cons _ (.cons _ (.cons_cons _ .slnil))))))
    refine GL_nil ⟨fun _ => hpS26, ?_⟩
    refine GO_rd rfl rfl (wn_none rfl) rfl hpS26 (fun w hp => (rd_convE (q := ((getL ((x.drop 44).take 6)) : Int)) rfl rfl Try.underlying3 Try.underlying160 (by simp) (by rw [sa_get x (by decide) (by omega)]; exact IntWalk.i64_in _ (by have := get6_lt x 44; omega)))) ?_
    refine GO_rd rfl rfl (wn_none rfl) rfl hpS26 (fun w hp => (rd_buildF (L := (clipC { clpZ with cls := ((x.getD 36 0).toNat : Int), made := ((getL ((x.drop 37).take 6)) : Int), fired := decide (((x.getD 43 0).toNat : Int) = 1), event := ((getL ((x.drop 44).take 6)) : Int) } (.slice none 0 0) (.slice none 0 0))) rfl tz83 pl83 rfl (fill_more 32 1 rfl rfl rfl (by decide) (clip_set0C ((x.getD 36 0).toNat : Int)) (fill_more 33 1 rfl rfl rfl (by rw [clipC_len]; decide) (clip_setM _ _ _ _) (fill_more 34 1 rfl rfl rfl (by rw [clipC_len]; decide) (clip_setF _ _ _ _) (fill_more 35 1 rfl rfl rfl (by rw [clipC_len]; decide) (clip_setE _ _ _ _) (fill_done rfl))))))) ?_
    refine GO_of_GL rfl ?_
    refine GL_store (i := 2) (wn_none rfl) rfl rfl rfl rfl ts83 rfl (clipC_len _ _ _) (clipC_one _ _ _ _ _ _ _) hp rfl (by decide) (splice_all _ _ (by rw [clipC_len]; rfl)) ?_
    intro w hp
    refine GL_nil ⟨fun h => absurd h (by decide), ?_⟩
    refine GO_nil ?_
    have hp := ((((hp.front 4 rfl).front 4 rfl).front 4 rfl).take 3)
    have hp : Hp w0 [] w [cells g7 83 (clipC (fD x (adF x 0) ⟨#[]⟩) (.slice none 0 0) (.slice none 0 0)), cells g2 83 (clipC clpZ (.slice none 0 0) (.slice none 0 0)), cells g 44 (bys x)] := by rw [adF_0, ← clpZ_c]; simp only [sa_get x (show 6 ≤ 8 by decide) (show 37 + 6 ≤ x.length by omega), sa_get x (show 6 ≤ 8 by decide) (show 44 + 6 ≤ x.length by omega)] at hp; exact hp
    exact ⟨g7, _, slots5 rfl rfl rfl rfl rfl, hp⟩
  ·rintro f w ⟨g3, fz, rfl, hp⟩
   refine GW_seq ?_
   refine GW_seq ?_
   refine GW_region ?_
   refine GL_rd (v := .int _ _) (wn_none rfl) rfl (rd_assign rfl rfl) ?_
   refine GL_nil ?_
   refine GW_block ?_
   refine GW_loop ?_
   refine Lp_ind (α := Nat) (fun a_0 f_0 w' => match a_0 with | i => ∃ fz, f_0 = (upd (upd (upd (upd (upd (upd fz 1 (.int .i64 m)) 2 (.int .i64 k)) 3 (.pointer (some ⟨g, 0, none⟩))) 6 (.pointer (some ⟨g2, 0, none⟩))) 9 (.pointer (some ⟨g3, 0, none⟩))) 10 (.int .i64 (i : Int))) ∧ Hp w0 [] w' [cells g3 83 (clipC (fD x (adF x i) ⟨#[]⟩) (.slice none 0 0) (.slice none 0 0)), cells g2 83 (clipC clpZ (.slice none 0 0) (.slice none 0 0)), cells g 44 (bys x)] ∧ (i ≤ 32)) (fun a_0 => match a_0 with | i => 32 - i) ?_ 0 _ _ ?_
   ·rintro i f wz ⟨fz, rfl, hp, hi0⟩ ihL0
    refine Lp_round ?_
    refine GW_seq ?_
    refine GW_seq ?_
    refine GW_region ?_
    refine GL_rd (v := .int _ _) (wn_none rfl) rfl (rd_move rfl rfl) ?_
    refine GL_rd (wn_none rfl) rfl (rd_bin rfl rfl rfl bo_lss) ?_
    refine GL_nil ?_
    refine GW_cond rfl (fun hb2 => ?_) (fun hb2 => ?_)
    ·(try simp only [decide_eq_true_eq, decide_eq_false_iff_not, Bool.not_eq_true', Bool.not_eq_false', Bool.not_eq_eq_eq_not, Bool.not_true, Bool.not_false, Int.not_lt, Int.not_le] at hb2)
     refine GW_skip ?_
     refine GW_seq ?_
     refine GW_block ?_
     refine GW_region ?_
     refine GL_rd (v := .int _ _) (wn_none rfl) rfl (rd_move rfl rfl) ?_
     refine GL_rd (v := .int _ _) (wn_none rfl) rfl (rd_move rfl rfl) ?_
     refine GL_rd (wn_none rfl) rfl (rd_bin rfl rfl rfl (bo_add64 (by omega))) ?_
     refine GL_rd (wn_none rfl) rfl (rd_indexA (j := (4 + i)) rfl rfl rfl Try.underlying44 ts5 (by omega) (by omega) _ rfl) ?_
     refine GL_rd (wn_none rfl) rfl (rd_load rfl rfl Try.underlying5 rfl ((cell_of_cells (hp.get 2 rfl) _).trans (byte_at1 hx (by omega)))) ?_
     refine GL_rd (wn_none rfl) rfl (rd_field rfl rfl fa83_0 _ rfl) ?_
     refine GL_rd (wn_none rfl) rfl (rd_indexA (j := i) rfl rfl rfl Try.underlying57 ts5 rfl (by omega) _ rfl) ?_
     refine GL_store (i := 0) (wn_none rfl) rfl rfl rfl rfl ts5 rfl rfl (one1 rfl) hp rfl (by rw [clipC_len]; omega) (adF_step hx (by omega) (fD x (adF x i) ⟨#[]⟩) _ _) ?_
     intro w hp
     refine GL_nil ?_
     refine GW_region ?_
     refine GL_rd (v := .int _ _) (wn_none rfl) rfl (rd_move rfl rfl) ?_
     refine GL_rd (wn_none rfl) rfl (rd_bin rfl rfl rfl (bo_add64 (by omega))) ?_
     refine GL_rd (v := .int _ _) (wn_none rfl) rfl (rd_assign rfl rfl) ?_
     refine GL_nil ?_
     exact ihL0 (i + 1) _ _ (by simp only []; omega) ⟨_, slots6 rfl rfl rfl rfl rfl rfl, hp, by omega⟩
    ·(try simp only [decide_eq_true_eq, decide_eq_false_iff_not, Bool.not_eq_true', Bool.not_eq_false', Bool.not_eq_eq_eq_not, Bool.not_true, Bool.not_false, Int.not_lt, Int.not_le] at hb2)
     obtain rfl : i = 32 := by omega
     refine GW_exit ?_
     refine GW_seq ?_
     refine GW_region ?_
     refine GL_rd (wn_none rfl) rfl (rd_loadC rfl rfl Try.underlying44 rfl ts44 (hp.get 2 rfl) (by rw [bys_length, hx])) ?_
     refine GL_call (wn_none rfl) rfl rfl (ref_bcut x 50 32 _ hx (by omega)) rfl ?_
     intro qc w hk
     have hp := hp.comp hk
     refine GL_call (wn_none rfl) rfl rfl (ref_Unpad _ 32 _ _ (Sl.row (hp.get 0 rfl))) rfl ?_
     rintro _ w ⟨rfl, hk⟩
     have hp := hp.comp hk
     refine GL_rd (v := .tuple _) (wn_none rfl) rfl (rd_move rfl rfl) ?_
     refine GL_rd (v := .string _) (wn_none rfl) rfl (rd_extract rfl rfl rfl) ?_
     refine GL_rd (v := .int _ _) (wn_none rfl) rfl (rd_extract rfl rfl rfl) ?_
     refine GL_rd (wn_none rfl) rfl (rd_field rfl rfl fa83_6 _ rfl) ?_
     refine GL_store (i := 1) (wn_none rfl) rfl rfl rfl rfl ts9 rfl rfl (one1 rfl) hp rfl (by rw [clipC_len]; decide) (clip_setN _ _ _ _) ?_
     intro w hp
     refine GL_nil ?_
     refine GW_seq ?_
     refine GW_region ?_
     refine GL_rd (v := .int _ _) (wn_none rfl) rfl (rd_assign rfl rfl) ?_
     refine GL_nil ?_
     refine GW_cut (fun f_0 w' => ∃ (Az : Option Addr) (cz : Nat) (fz : _), f_0 = (upd (upd (upd (upd (upd (upd fz 1 (.int .i64 m)) 2 (.int .i64 k)) 3 (.pointer (some ⟨g, 0, none⟩))) 6 (.pointer (some ⟨g2, 0, none⟩))) 9 (.pointer (some ⟨g3, 0, none⟩))) 11 (.int .i64 ((fAt x : Nat) : Int))) ∧ Hp w0 [] w' [.row 9 1 (.slice Az (fNh x) cz) (fNh x) ((fNm x (fNh x)).map Value.string), cells g3 83 (clipC (fD x (adF x 32) (fC x).note) (.slice Az (fNh x) cz) (.slice none 0 0)), cells g2 83 (clipC clpZ (.slice none 0 0) (.slice none 0 0)), cells g 44 (bys x)]) ?_ ?_
     ·skip
      refine GW_seq ?_
      refine GW_region ?_
      refine GL_rd (v := .int _ _) (wn_none rfl) rfl (rd_assign rfl rfl) ?_
      refine GL_nil ?_
      refine GW_block ?_
      refine GW_loop ?_
      refine Lp_ind (α := Nat × Value) (fun a_0 f_0 w' => match a_0 with | (i, hw) => ∃ fz, f_0 = (upd (upd (upd (upd (upd (upd (upd fz 1 (.int .i64 m)) 2 (.int .i64 k)) 3 (.pointer (some ⟨g, 0, none⟩))) 6 (.pointer (some ⟨g2, 0, none⟩))) 9 (.pointer (some ⟨g3, 0, none⟩))) 11 (.int .i64 ((83 + 16 * i : Nat) : Int))) 12 (.int .i64 (i : Int))) ∧ Hp w0 [] w' [.row 9 1 hw i ((fNm x i).map Value.string), cells g3 83 (clipC (fD x (adF x 32) (fC x).note) hw (.slice none 0 0)), cells g2 83 (clipC clpZ (.slice none 0 0) (.slice none 0 0)), cells g 44 (bys x)] ∧ (i ≤ fNh x)) (fun a_0 => match a_0 with | (i, hw) => fNh x - i) ?_ (0, .slice none 0 0) _ _ ?_
      ·rintro ⟨i, hw⟩ f wz ⟨fz, rfl, hp, hi0⟩ ihL1
       refine Lp_round ?_
       refine GW_seq ?_
       refine GW_seq ?_
       refine GW_region ?_
       refine GL_rd (v := .int _ _) (wn_none rfl) rfl (rd_move rfl rfl) ?_
       refine GL_rd (wn_none rfl) rfl (rd_indexA (j := 82) rfl rfl rfl Try.underlying44 ts5 rfl (by decide) _ rfl) ?_
       refine GL_rd (wn_none rfl) rfl (rd_load rfl rfl Try.underlying5 rfl ((cell_of_cells (hp.get 3 rfl) _).trans (byte_at1 hx (by omega)))) ?_
       refine GL_rd (wn_none rfl) rfl (rd_conv8 .i64 rfl rfl Try.underlying3 Try.underlying5 (by simp)) ?_
       refine GL_rd (wn_none rfl) rfl (rd_bin rfl rfl rfl bo_lss) ?_
       refine GL_rd (v := .bool _) (wn_none rfl) rfl (rd_move rfl rfl) ?_
       refine GL_split (t := 60) (b := _) rfl ?_ ?_
       ·intro hb3; (try simp only [decide_eq_true_eq, decide_eq_false_iff_not, Bool.not_eq_true', Bool.not_eq_false', Bool.not_eq_eq_eq_not, Bool.not_true, Bool.not_false, Int.not_lt, Int.not_le] at hb3)
        refine GL_rd (v := .int _ _) (wn_on rfl rfl rfl rfl) rfl (rd_move rfl rfl) ?_
        refine GL_rd (wn_on rfl rfl rfl rfl) rfl (rd_bin rfl rfl rfl bo_lss) ?_
        refine GL_rd (v := .bool _) (wn_none rfl) rfl (rd_pickT rfl rfl rfl) ?_
        refine GL_nil ?_
        refine GW_cond rfl (fun hb4 => ?_) (fun hb4 => ?_)
        ·(try simp only [decide_eq_true_eq, decide_eq_false_iff_not, Bool.not_eq_true', Bool.not_eq_false', Bool.not_eq_eq_eq_not, Bool.not_true, Bool.not_false, Int.not_lt, Int.not_le] at hb4)
         have hiq : i < fNh x := by unfold fNh; omega
         refine GW_skip ?_
         refine GW_seq ?_
         refine GW_block ?_
         refine GW_seq ?_
         refine GW_region ?_
         refine GL_rd (wn_none rfl) rfl (rd_loadC rfl rfl Try.underlying44 rfl ts44 (hp.get 3 rfl) (by rw [bys_length, hx])) ?_
         refine GL_rd (v := .int _ _) (wn_none rfl) rfl (rd_move rfl rfl) ?_
         refine GL_call (wn_none rfl) rfl rfl (ref_bcut x (83 + 16 * i) 16 _ hx (by omega)) rfl ?_
         intro qc w hk
         have hp := hp.comp hk
         refine GL_call (wn_none rfl) rfl rfl (ref_Unpad _ 16 _ _ (Sl.row (hp.get 0 rfl))) rfl ?_
         rintro _ w ⟨rfl, hk⟩
         have hp := hp.comp hk
         refine GL_rd (v := .tuple _) (wn_none rfl) rfl (rd_move rfl rfl) ?_
         refine GL_rd (v := .string _) (wn_none rfl) rfl (rd_extract rfl rfl rfl) ?_
         refine GL_rd (v := .int _ _) (wn_none rfl) rfl (rd_extract rfl rfl rfl) ?_
         refine GL_rd (v := .string _) (wn_none rfl) rfl (rd_assign rfl rfl) ?_
         refine GL_rd (v := .int _ _) (wn_none rfl) rfl (rd_assign rfl rfl) ?_
         refine GL_nil ?_
         refine GW_seq ?_
         refine GW_region ?_
         refine GL_rd (wn_none rfl) rfl (rd_field rfl rfl fa83_5 _ rfl) ?_
         refine GL_rd (wn_none rfl) rfl (rd_load rfl rfl Try.underlying40 rfl ((cell_of_cells (hp.get 2 rfl) _).trans (clip_holds _ _ _))) ?_
         refine GL_rd (v := .string _) (wn_none rfl) rfl (rd_move rfl rfl) ?_
         refine GL_lit (L := [.string ⟨(unpadL ((x.drop (83 + 16 * i)).take 16)).toArray⟩]) (wn_none rfl) rfl rfl Try.underlying40 ts9 tz9 rfl (by kernel_rfl) rfl rfl hp ?_
         intro g8 w hp
         refine GL_append (i := 2) (wn_none rfl) rfl rfl rfl rfl Try.underlying40 ti9 rfl (by decide) hp rfl (Sl.row (hp.get 0 rfl)) (one1 rfl) (by omega) (by omega) ?_
         intro v w hp
         obtain ⟨Av, cv, rfl⟩ := row_shape (hp.get 2 rfl)
         refine GL_rd (wn_none rfl) rfl (rd_field rfl rfl fa83_5 _ rfl) ?_
         refine GL_store (i := 3) (wn_none rfl) rfl rfl rfl rfl ts40 rfl rfl (one1 rfl) hp rfl (by rw [clipC_len]; decide) (clip_setH _ _ _ _) ?_
         intro w hp
         refine GL_nil ?_
         refine GW_region ?_
         refine GL_rd (v := .int _ _) (wn_none rfl) rfl (rd_move rfl rfl) ?_
         refine GL_rd (wn_none rfl) rfl (rd_bin rfl rfl rfl (bo_add64 (by omega))) ?_
         refine GL_rd (v := .int _ _) (wn_none rfl) rfl (rd_assign rfl rfl) ?_
         refine GL_nil ?_
         refine GW_region ?_
         refine GL_rd (v := .int _ _) (wn_none rfl) rfl (rd_move rfl rfl) ?_
         refine GL_rd (wn_none rfl) rfl (rd_bin rfl rfl rfl (bo_add64 (by omega))) ?_
         refine GL_rd (v := .int _ _) (wn_none rfl) rfl (rd_assign rfl rfl) ?_
         refine GL_nil ?_
         have hp := (((((hp.front 5 rfl).front 5 rfl).front 5 rfl).front 5 rfl).take 4)
         have hp : Hp w0 [] w [.row 9 1 (.slice Av (i + 1) cv) (i + 1) ((fNm x (i + 1)).map Value.string), cells g3 83 (clipC (fD x (adF x 32) (fC x).note) (.slice Av (i + 1) cv) (.slice none 0 0)), cells g2 83 (clipC clpZ (.slice none 0 0) (.slice none 0 0)), cells g 44 (bys x)] := by rw [fNm_succ]; exact hp
         exact ihL1 (i + 1, (.slice Av (i + 1) cv)) _ _ (by simp only []; omega) ⟨_, slots7 rfl rfl rfl rfl rfl (by simp only [upd]; congr 1 <;> omega) rfl, hp, by omega⟩
        ·(try simp only [decide_eq_true_eq, decide_eq_false_iff_not, Bool.not_eq_true', Bool.not_eq_false', Bool.not_eq_eq_eq_not, Bool.not_true, Bool.not_false, Int.not_lt, Int.not_le] at hb4)
         have hnh : ¬ i < fNh x := by unfold fNh; omega
         obtain rfl : i = fNh x := by omega
         obtain ⟨Az, cz, rfl⟩ := row_shape (hp.get 0 rfl)
         refine GW_exit ?_
         have hp := (((((hp.front 3 rfl).front 3 rfl).front 3 rfl).front 3 rfl).take 4)
         exact ⟨Az, cz, _, slots6 rfl rfl rfl rfl rfl rfl, hp⟩
       ·intro hb3; (try simp only [decide_eq_true_eq, decide_eq_false_iff_not, Bool.not_eq_true', Bool.not_eq_false', Bool.not_eq_eq_eq_not, Bool.not_true, Bool.not_false, Int.not_lt, Int.not_le] at hb3)
        have hnh : ¬ i < fNh x := by unfold fNh; omega
        obtain rfl : i = fNh x := by omega
        obtain ⟨Az, cz, rfl⟩ := row_shape (hp.get 0 rfl)
        refine GL_pass (nw_off rfl rfl rfl rfl rfl) rfl ?_
        refine GL_pass (nw_off rfl rfl rfl rfl rfl) rfl ?_
        refine GL_rd (v := .bool _) (wn_none rfl) rfl (rd_pickF rfl rfl rfl) ?_
        refine GL_nil ?_
        refine GW_false rfl ?_
        refine GW_exit ?_
        have hp := (((((hp.front 3 rfl).front 3 rfl).front 3 rfl).front 3 rfl).take 4)
        exact ⟨Az, cz, _, slots6 rfl rfl rfl rfl rfl rfl, hp⟩
      ·have hp := ((((hp.front 3 rfl).front 3 rfl).front 3 rfl).take 3)
       have hp := hp.nilRow 9 1
       refine ⟨_, slots7 rfl rfl rfl rfl rfl rfl rfl, hp, Nat.zero_le _⟩
     ·rintro f w ⟨Az, cz, fz, rfl, hp⟩
      refine GW_cut (fun f_0 w' => ∃ (Ay : Option Addr) (cy : Nat) (fz : _), f_0 = (upd (upd (upd (upd (upd fz 1 (.int .i64 m)) 2 (.int .i64 k)) 3 (.pointer (some ⟨g, 0, none⟩))) 6 (.pointer (some ⟨g2, 0, none⟩))) 9 (.pointer (some ⟨g3, 0, none⟩))) ∧ Hp w0 [] w' [.row 3 1 (.slice Ay (fNt x) cy) (fNt x) ((fC x).texts.map (Value.int .i64)), .row 9 1 (.slice Az (fNh x) cz) (fNh x) ((fC x).holds.map Value.string), cells g3 83 (clipC (fC x) (.slice Az (fNh x) cz) (.slice Ay (fNt x) cy)), cells g2 83 (clipC clpZ (.slice none 0 0) (.slice none 0 0)), cells g 44 (bys x)]) ?_ ?_
      ·skip
       refine GW_seq ?_
       refine GW_region ?_
       refine GL_rd (v := .int _ _) (wn_none rfl) rfl (rd_assign rfl rfl) ?_
       refine GL_nil ?_
       refine GW_block ?_
       refine GW_loop ?_
       refine Lp_ind (α := Nat × Value) (fun a_0 f_0 w' => match a_0 with | (i, tw) => ∃ fz, f_0 = (upd (upd (upd (upd (upd (upd (upd fz 1 (.int .i64 m)) 2 (.int .i64 k)) 3 (.pointer (some ⟨g, 0, none⟩))) 6 (.pointer (some ⟨g2, 0, none⟩))) 9 (.pointer (some ⟨g3, 0, none⟩))) 11 (.int .i64 ((fAt x : Nat) : Int))) 15 (.int .i64 (i : Int))) ∧ Hp w0 [] w' [.row 3 1 tw i ((fTx x i).map (Value.int .i64)), .row 9 1 (.slice Az (fNh x) cz) (fNh x) ((fNm x (fNh x)).map Value.string), cells g3 83 (clipC (fD x (adF x 32) (fC x).note) (.slice Az (fNh x) cz) tw), cells g2 83 (clipC clpZ (.slice none 0 0) (.slice none 0 0)), cells g 44 (bys x)] ∧ (i ≤ fNt x)) (fun a_0 => match a_0 with | (i, tw) => fNt x - i) ?_ (0, .slice none 0 0) _ _ ?_
       ·rintro ⟨i, tw⟩ f wz ⟨fz, rfl, hp, hi0⟩ ihL2
        refine Lp_round ?_
        refine GW_seq ?_
        refine GW_seq ?_
        refine GW_region ?_
        refine GL_rd (v := .int _ _) (wn_none rfl) rfl (rd_move rfl rfl) ?_
        refine GL_rd (v := .int _ _) (wn_none rfl) rfl (rd_move rfl rfl) ?_
        refine GL_rd (wn_none rfl) rfl (rd_indexA (j := (fAt x)) rfl rfl rfl Try.underlying44 ts5 rfl (by omega) _ rfl) ?_
        refine GL_rd (wn_none rfl) rfl (rd_load rfl rfl Try.underlying5 rfl ((cell_of_cells (hp.get 4 rfl) _).trans (byte_at1 hx (by omega)))) ?_
        refine GL_rd (wn_none rfl) rfl (rd_conv8 .i64 rfl rfl Try.underlying3 Try.underlying5 (by simp)) ?_
        refine GL_rd (wn_none rfl) rfl (rd_bin rfl rfl rfl bo_lss) ?_
        refine GL_rd (v := .bool _) (wn_none rfl) rfl (rd_move rfl rfl) ?_
        refine GL_split (t := 87) (b := _) rfl ?_ ?_
        ·intro hb5; (try simp only [decide_eq_true_eq, decide_eq_false_iff_not, Bool.not_eq_true', Bool.not_eq_false', Bool.not_eq_eq_eq_not, Bool.not_true, Bool.not_false, Int.not_lt, Int.not_le] at hb5)
         refine GL_rd (v := .int _ _) (wn_on rfl rfl rfl rfl) rfl (rd_move rfl rfl) ?_
         refine GL_rd (wn_on rfl rfl rfl rfl) rfl (rd_bin rfl rfl rfl bo_lss) ?_
         refine GL_rd (v := .bool _) (wn_none rfl) rfl (rd_pickT rfl rfl rfl) ?_
         refine GL_nil ?_
         refine GW_cond rfl (fun hb6 => ?_) (fun hb6 => ?_)
         ·(try simp only [decide_eq_true_eq, decide_eq_false_iff_not, Bool.not_eq_true', Bool.not_eq_false', Bool.not_eq_eq_eq_not, Bool.not_true, Bool.not_false, Int.not_lt, Int.not_le] at hb6)
          have hiq : i < fNt x := by unfold fNt; omega
          refine GW_skip ?_
          refine GW_seq ?_
          refine GW_block ?_
          refine GW_drawnK 12 (.one 0 true (.one 1 true (.one 2 true (.one 3 true (.one 4 true (.one 5 true (.one 6 true (.one 7 true (.one 8 true (.one 9 false (.one 10 false (.one 11 true (.one 12 false .nil))))))))))))) mixed (by kernel_rfl) hp (fun _ h => (h.sub (.cons _ (.cons _ (.cons_cons _ (.cons _ (.cons_cons _ .slnil))))))) fun w hp => ?_
          have hpS27 := (hp.sub (.cons _ (.cons _ (.cons_cons _ (.cons _ (.cons_cons _ .slnil))))))
          refine GO_rdT rfl (wn_none rfl) rfl (fun w => (rd_field rfl rfl fa83_7 _ rfl)) ?_
          refine GO_rd rfl rfl (wn_none rfl) rfl hpS27 (fun w hp => (rd_load rfl rfl Try.underlying32 rfl ((cell_of_cells (hp.get 0 rfl) _).trans (clip_texts _ _ _)))) ?_
          refine GO_rdT (v := .int _ _) rfl (wn_none rfl) rfl (fun w => (rd_move rfl rfl)) ?_
          refine GO_rd rfl rfl (wn_none rfl) rfl hpS27 (fun w hp => (rd_bin rfl rfl rfl (bo_add64 (by omega)))) ?_
          refine GO_rdT (v := .int _ _) rfl (wn_none rfl) rfl (fun w => (rd_move rfl rfl)) ?_
          refine GO_rd rfl rfl (wn_none rfl) rfl hpS27 (fun w hp => (rd_bin rfl rfl rfl (bo_add64 (by omega)))) ?_
          refine GO_rdT rfl (wn_none rfl) rfl (fun w => (rd_indexA (j := (fAt x + 1 + i)) rfl rfl rfl Try.underlying44 ts5 (by omega) (by omega) _ rfl)) ?_
          refine GO_rd rfl rfl (wn_none rfl) rfl hpS27 (fun w hp => (rd_load rfl rfl Try.underlying5 rfl ((cell_of_cells (hp.get 1 rfl) _).trans (byte_at1 hx (by omega))))) ?_
          refine GO_rd rfl rfl (wn_none rfl) rfl hpS27 (fun w hp => (rd_conv8 .i64 rfl rfl Try.underlying3 Try.underlying5 (by simp))) ?_
          refine GO_of_GL rfl ?_
          refine GL_lit (L := [.int .i64 ((x.getD (fAt x + 1 + i) 0).toNat : Int)]) (wn_none rfl) rfl rfl Try.underlying32 ts3 tz3 rfl (by kernel_rfl) rfl rfl hp ?_
          intro g9 w hp
          have hpS28 := (hp.sub (.cons _ (.cons _ (.cons _ (.cons_cons _ (.cons _ (.cons_cons _ .slnil)))))))
          refine GL_nil ⟨fun _ => hpS28, ?_⟩
          refine GO_of_GL rfl ?_
          refine GL_append (i := 1) (wn_none rfl) rfl rfl rfl rfl Try.underlying32 ti3 rfl (by decide) hp rfl (Sl.row (hp.get 0 rfl)) (one1 rfl) (by omega) (by omega) ?_
          intro v2 w hp
          obtain ⟨Av2, cv2, rfl⟩ := row_shape (hp.get 1 rfl)
          have hpS29 := (hp.sub (.cons _ (.cons _ (.cons _ (.cons_cons _ (.cons _ (.cons_cons _ .slnil)))))))
          refine GL_nil ⟨fun _ => hpS29, ?_⟩
          refine GO_rdT rfl (wn_none rfl) rfl (fun w => (rd_field rfl rfl fa83_7 _ rfl)) ?_
          refine GO_of_GL rfl ?_
          refine GL_store (i := 3) (wn_none rfl) rfl rfl rfl rfl ts32 rfl rfl (one1 rfl) hp rfl (by rw [clipC_len]; decide) (clip_setT _ _ _ _) ?_
          intro w hp
          refine GL_nil ⟨fun h => absurd h (by decide), ?_⟩
          refine GO_nil ?_
          refine GW_region ?_
          refine GL_rd (v := .int _ _) (wn_none rfl) rfl (rd_move rfl rfl) ?_
          refine GL_rd (wn_none rfl) rfl (rd_bin rfl rfl rfl (bo_add64 (by omega))) ?_
          refine GL_rd (v := .int _ _) (wn_none rfl) rfl (rd_assign rfl rfl) ?_
          refine GL_nil ?_
          have hp := ((((((hp.front 5 rfl).front 5 rfl).front 5 rfl).front 5 rfl).front 5 rfl).take 5)
          have hp : Hp w0 [] w [.row 3 1 (.slice Av2 (i + 1) cv2) (i + 1) ((fTx x (i + 1)).map (Value.int .i64)), .row 9 1 (.slice Az (fNh x) cz) (fNh x) ((fNm x (fNh x)).map Value.string), cells g3 83 (clipC (fD x (adF x 32) (fC x).note) (.slice Az (fNh x) cz) (.slice Av2 (i + 1) cv2)), cells g2 83 (clipC clpZ (.slice none 0 0) (.slice none 0 0)), cells g 44 (bys x)] := by rw [fTx_succ]; exact hp
          exact ihL2 (i + 1, (.slice Av2 (i + 1) cv2)) _ _ (by simp only []; omega) ⟨_, slots7 rfl rfl rfl rfl rfl rfl rfl, hp, by omega⟩
         ·(try simp only [decide_eq_true_eq, decide_eq_false_iff_not, Bool.not_eq_true', Bool.not_eq_false', Bool.not_eq_eq_eq_not, Bool.not_true, Bool.not_false, Int.not_lt, Int.not_le] at hb6)
          have hnt : ¬ i < fNt x := by unfold fNt; omega
          obtain rfl : i = fNt x := by omega
          obtain ⟨Ay, cy, rfl⟩ := row_shape (hp.get 0 rfl)
          refine GW_exit ?_
          have hp := ((((((hp.front 4 rfl).front 4 rfl).front 4 rfl).front 4 rfl).front 4 rfl).take 5)
          rw [fD_C] at hp
          exact ⟨Ay, cy, _, slots5 rfl rfl rfl rfl rfl, hp⟩
        ·intro hb5; (try simp only [decide_eq_true_eq, decide_eq_false_iff_not, Bool.not_eq_true', Bool.not_eq_false', Bool.not_eq_eq_eq_not, Bool.not_true, Bool.not_false, Int.not_lt, Int.not_le] at hb5)
         have hnt : ¬ i < fNt x := by unfold fNt; omega
         obtain rfl : i = fNt x := by omega
         obtain ⟨Ay, cy, rfl⟩ := row_shape (hp.get 0 rfl)
         refine GL_pass (nw_off rfl rfl rfl rfl rfl) rfl ?_
         refine GL_pass (nw_off rfl rfl rfl rfl rfl) rfl ?_
         refine GL_rd (v := .bool _) (wn_none rfl) rfl (rd_pickF rfl rfl rfl) ?_
         refine GL_nil ?_
         refine GW_false rfl ?_
         refine GW_exit ?_
         have hp := ((((((hp.front 4 rfl).front 4 rfl).front 4 rfl).front 4 rfl).front 4 rfl).take 5)
         rw [fD_C] at hp
         exact ⟨Ay, cy, _, slots5 rfl rfl rfl rfl rfl, hp⟩
       ·have hp := (((((hp.front 3 rfl).front 3 rfl).front 3 rfl).front 3 rfl).take 4)
        have hp := hp.nilRow 3 1
        refine ⟨_, slots7 rfl rfl rfl rfl rfl rfl rfl, hp, Nat.zero_le _⟩
      ·rintro f w ⟨Ay, cy, fz, rfl, hp⟩
       refine GW_seq ?_
       refine GW_region ?_
       refine GL_rd (wn_none rfl) rfl (rd_loadC rfl rfl Try.underlying83 rfl ts83 (hp.get 2 rfl) (clipC_len _ _ _)) ?_
       refine GL_call (wn_none rfl) rfl rfl (ref_bPut (fC x) _ _ _ _ _ (Sl.row (hp.get 1 rfl)) (Sl.row (hp.get 0 rfl)) fNm_small (fC_small x)) rfl ?_
       rintro _ w ⟨rfl, hk⟩
       have hp := hp.comp hk
       refine GL_rd (v := .tuple _) (wn_none rfl) rfl (rd_move rfl rfl) ?_
       refine GL_rd (v := .agg ⟨_⟩) (wn_none rfl) rfl (rd_extract rfl rfl rfl) ?_
       refine GL_rd (v := .int _ _) (wn_none rfl) rfl (rd_extract rfl rfl rfl) ?_
       refine GL_alloc (wn_none rfl) rfl rfl tz44 rfl hp ?_
       intro g10 w hp
       refine GL_store (i := 0) (wn_none rfl) rfl rfl rfl rfl ts44 rfl (by rw [bys_length, secC_length]) (bys_one _) hp rfl (by rw [List.length_replicate]; decide) (splice_all _ _ (by rw [bys_length, secC_length, List.length_replicate])) ?_
       intro w hp
       refine GL_rd (v := .int _ _) (wn_none rfl) rfl (rd_assign rfl rfl) ?_
       refine GL_nil ?_
       refine GW_seq ?_
       refine GW_seq ?_
       refine GW_region ?_
       refine GL_rd (v := .int _ _) (wn_none rfl) rfl (rd_move rfl rfl) ?_
       refine GL_rd (wn_none rfl) rfl (rd_bin rfl rfl rfl bo_neq) ?_
       refine GL_rd (v := .bool _) (wn_none rfl) rfl (rd_move rfl rfl) ?_
       refine GL_split (t := 112) (b := _) rfl ?_ ?_
       ·intro hb7; (try simp only [decide_eq_true_eq, decide_eq_false_iff_not, Bool.not_eq_true', Bool.not_eq_false', Bool.not_eq_eq_eq_not, Bool.not_true, Bool.not_false, Int.not_lt, Int.not_le] at hb7)
        have hbad : gOk x m k = false := gOk_not hx (fun hh => hb7 hh.2.1)
        refine GL_pass (nw_off rfl rfl rfl rfl rfl) rfl ?_
        refine GL_pass (nw_off rfl rfl rfl rfl rfl) rfl ?_
        refine GL_pass (nw_off rfl rfl rfl rfl rfl) rfl ?_
        refine GL_rd (v := .bool _) (wn_none rfl) rfl (rd_pickT rfl rfl rfl) ?_
        refine GL_rd (v := .bool _) (wn_none rfl) rfl (rd_move rfl rfl) ?_
        refine GL_pass (nw_off rfl rfl rfl rfl rfl) rfl ?_
        refine GL_pass (nw_off rfl rfl rfl rfl rfl) rfl ?_
        refine GL_pass (nw_off rfl rfl rfl rfl rfl) rfl ?_
        refine GL_pass (nw_off rfl rfl rfl rfl rfl) rfl ?_
        refine GL_pass (nw_off rfl rfl rfl rfl rfl) rfl ?_
        refine GL_rd (v := .bool _) (wn_none rfl) rfl (rd_pickT rfl rfl rfl) ?_
        refine GL_nil ?_
        refine GW_true rfl ?_
        refine GW_seq ?_
        refine GW_region ?_
        refine GL_rd (wn_none rfl) rfl (rd_buildS (L := clpZc) rfl tz83 pl83 (by kernel_rfl)) ?_
        refine GL_store (i := 4) (wn_none rfl) rfl rfl rfl rfl ts83 rfl rfl (by rw [clpZ_c]; exact clipC_one _ _ _ _ _ _ _) hp rfl (by decide) (splice_all _ _ rfl) ?_
        intro w hp
        refine GL_rd (v := .bool _) (wn_none rfl) rfl (rd_assign rfl rfl) ?_
        refine GL_rd (v := .bool _) (wn_none rfl) rfl (rd_assign rfl rfl) ?_
        refine GL_nil ?_
        refine GW_ret ?_
        have hE : gR x m k = false := gR_no hz hbad
        refine ⟨_, res3 Try.results69 (rv_cell rfl rfl Try.underlying83 rfl ts83 (by first | exact clipC_len _ _ _ | rfl) (hp.get 4 rfl)) (rv_tmp (v := .bool _) rfl rfl) (rv_tmp (v := .bool _) rfl rfl), .slice none 0 0, .slice none 0 0, by rw [gV_no hbad, hbad, hE, ← clpZ_c], ?_⟩
        rw [gV_no hbad]
        exact (hp.mods.nilRow 9 1).nilRow 3 1
       ·intro hb7; (try simp only [decide_eq_true_eq, decide_eq_false_iff_not, Bool.not_eq_true', Bool.not_eq_false', Bool.not_eq_eq_eq_not, Bool.not_true, Bool.not_false, Int.not_lt, Int.not_le] at hb7)
        have hc8 := hb7
        refine GL_rd (wn_on rfl rfl rfl rfl) rfl (rd_loadC rfl rfl Try.underlying44 rfl ts44 (hp.get 0 rfl) (by rw [bys_length, secC_length])) ?_
        refine GL_rd (wn_on rfl rfl rfl rfl) rfl (rd_loadC rfl rfl Try.underlying44 rfl ts44 (hp.get 5 rfl) (by rw [bys_length, hx])) ?_
        refine GL_rd (wn_on rfl rfl rfl rfl) rfl (rd_bin rfl rfl rfl (bo_arrB Try.underlying44 Try.underlying5 ts5 (by kernel_rfl) (secC_length _) hx).2) ?_
        refine GL_rd (v := .bool _) (wn_none rfl) rfl (rd_pickF rfl rfl rfl) ?_
        refine GL_rd (v := .bool _) (wn_none rfl) rfl (rd_move rfl rfl) ?_
        refine GL_split (t := 117) (b := _) rfl ?_ ?_
        ·intro hb8; (try simp only [decide_eq_true_eq, decide_eq_false_iff_not, Bool.not_eq_true', Bool.not_eq_false', Bool.not_eq_eq_eq_not, Bool.not_true, Bool.not_false, Int.not_lt, Int.not_le] at hb8)
         have hbad : gOk x m k = false := gOk_not hx (fun hh => hb8 hh.2.2.1)
         refine GL_pass (nw_off rfl rfl rfl rfl rfl) rfl ?_
         refine GL_pass (nw_off rfl rfl rfl rfl rfl) rfl ?_
         refine GL_pass (nw_off rfl rfl rfl rfl rfl) rfl ?_
         refine GL_pass (nw_off rfl rfl rfl rfl rfl) rfl ?_
         refine GL_pass (nw_off rfl rfl rfl rfl rfl) rfl ?_
         refine GL_rd (v := .bool _) (wn_none rfl) rfl (rd_pickT rfl rfl rfl) ?_
         refine GL_nil ?_
         refine GW_true rfl ?_
         refine GW_seq ?_
         refine GW_region ?_
         refine GL_rd (wn_none rfl) rfl (rd_buildS (L := clpZc) rfl tz83 pl83 (by kernel_rfl)) ?_
         refine GL_store (i := 4) (wn_none rfl) rfl rfl rfl rfl ts83 rfl rfl (by rw [clpZ_c]; exact clipC_one _ _ _ _ _ _ _) hp rfl (by decide) (splice_all _ _ rfl) ?_
         intro w hp
         refine GL_rd (v := .bool _) (wn_none rfl) rfl (rd_assign rfl rfl) ?_
         refine GL_rd (v := .bool _) (wn_none rfl) rfl (rd_assign rfl rfl) ?_
         refine GL_nil ?_
         refine GW_ret ?_
         have hE : gR x m k = false := gR_no hz hbad
         refine ⟨_, res3 Try.results69 (rv_cell rfl rfl Try.underlying83 rfl ts83 (by first | exact clipC_len _ _ _ | rfl) (hp.get 4 rfl)) (rv_tmp (v := .bool _) rfl rfl) (rv_tmp (v := .bool _) rfl rfl), .slice none 0 0, .slice none 0 0, by rw [gV_no hbad, hbad, hE, ← clpZ_c], ?_⟩
         rw [gV_no hbad]
         exact (hp.mods.nilRow 9 1).nilRow 3 1
        ·intro hb8; (try simp only [decide_eq_true_eq, decide_eq_false_iff_not, Bool.not_eq_true', Bool.not_eq_false', Bool.not_eq_eq_eq_not, Bool.not_true, Bool.not_false, Int.not_lt, Int.not_le] at hb8)
         have hs := hb8
         refine GL_rd (wn_on rfl rfl rfl rfl) rfl (rd_loadC rfl rfl Try.underlying83 rfl ts83 (hp.get 3 rfl) (clipC_len _ _ _)) ?_
         refine GL_rd (v := .int _ _) (wn_on rfl rfl rfl rfl) rfl (rd_move rfl rfl) ?_
         refine GL_rd (v := .int _ _) (wn_on rfl rfl rfl rfl) rfl (rd_move rfl rfl) ?_
         refine GL_call (wn_on rfl rfl rfl rfl) rfl rfl (ref_bCheck (fC x) _ _ _ _ m k _ (Sl.row (hp.get 2 rfl)) (Sl.row (hp.get 1 rfl)) fNm_small) rfl ?_
         rintro _ w ⟨rfl, hk⟩
         have hp := hp.comp hk
         refine GL_rd (wn_on rfl rfl rfl rfl) rfl (rd_bin rfl rfl rfl bo_neq) ?_
         refine GL_rd (v := .bool _) (wn_none rfl) rfl (rd_pickF rfl rfl rfl) ?_
         refine GL_nil ?_
         refine GW_cond rfl (fun hb9 => ?_) (fun hb9 => ?_)
         ·(try simp only [decide_eq_true_eq, decide_eq_false_iff_not, Bool.not_eq_true', Bool.not_eq_false', Bool.not_eq_eq_eq_not, Bool.not_true, Bool.not_false, Int.not_lt, Int.not_le] at hb9)
          have hbad : gOk x m k = false := gOk_not hx (fun hh => hb9 hh.2.2.2)
          refine GW_seq ?_
          refine GW_region ?_
          refine GL_rd (wn_none rfl) rfl (rd_buildS (L := clpZc) rfl tz83 pl83 (by kernel_rfl)) ?_
          refine GL_store (i := 4) (wn_none rfl) rfl rfl rfl rfl ts83 rfl rfl (by rw [clpZ_c]; exact clipC_one _ _ _ _ _ _ _) hp rfl (by decide) (splice_all _ _ rfl) ?_
          intro w hp
          refine GL_rd (v := .bool _) (wn_none rfl) rfl (rd_assign rfl rfl) ?_
          refine GL_rd (v := .bool _) (wn_none rfl) rfl (rd_assign rfl rfl) ?_
          refine GL_nil ?_
          refine GW_ret ?_
          have hE : gR x m k = false := gR_no hz hbad
          refine ⟨_, res3 Try.results69 (rv_cell rfl rfl Try.underlying83 rfl ts83 (by first | exact clipC_len _ _ _ | rfl) (hp.get 4 rfl)) (rv_tmp (v := .bool _) rfl rfl) (rv_tmp (v := .bool _) rfl rfl), .slice none 0 0, .slice none 0 0, by rw [gV_no hbad, hbad, hE, ← clpZ_c], ?_⟩
          rw [gV_no hbad]
          exact (hp.mods.nilRow 9 1).nilRow 3 1
         ·(try simp only [decide_eq_true_eq, decide_eq_false_iff_not, Bool.not_eq_true', Bool.not_eq_false', Bool.not_eq_eq_eq_not, Bool.not_true, Bool.not_false, Int.not_lt, Int.not_le] at hb9)
          have hgd : gOk x m k = true := (get_iff hx m k).2 ⟨hz, hc8, hs, hb9⟩
          refine GW_skip ?_
          refine GW_seq ?_
          refine GW_region ?_
          refine GL_rd (wn_none rfl) rfl (rd_loadC rfl rfl Try.underlying83 rfl ts83 (hp.get 3 rfl) (clipC_len _ _ _)) ?_
          refine GL_store (i := 4) (wn_none rfl) rfl rfl rfl rfl ts83 rfl (clipC_len _ _ _) (clipC_one _ _ _ _ _ _ _) hp rfl (by decide) (splice_all _ _ (by rw [clipC_len]; rfl)) ?_
          intro w hp
          refine GL_rd (v := .bool _) (wn_none rfl) rfl (rd_assign rfl rfl) ?_
          refine GL_rd (v := .bool _) (wn_none rfl) rfl (rd_assign rfl rfl) ?_
          refine GL_nil ?_
          refine GW_ret ?_
          refine ⟨_, res3 Try.results69 (rv_cell rfl rfl Try.underlying83 rfl ts83 (by first | exact clipC_len _ _ _ | rfl) (hp.get 4 rfl)) (rv_tmp (v := .bool _) rfl rfl) (rv_tmp (v := .bool _) rfl rfl), _, _, by rw [get_val hx hgd, hgd, gR_yes hgd], ?_⟩
          rw [get_val hx hgd]
          have hp := (((hp.front 2 rfl).front 2 rfl).take 2)
          have e1 : (fC x).texts.length = fNt x := fTx_len x _
          have e2 : (fC x).holds.length = fNh x := fNm_len x _
          rw [e1, e2]
          exact hp
   ·refine ⟨_, slots6 rfl rfl rfl rfl rfl rfl, hp, Nat.zero_le _⟩
end Go.Proofs.Ytblpmjbddpadcaa
