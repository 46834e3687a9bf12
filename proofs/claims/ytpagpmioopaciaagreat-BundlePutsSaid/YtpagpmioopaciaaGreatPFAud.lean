/- Walks of functions of the program. -/
import Derived.Test.YtpagpmioopaciaaGreatPFDig
import Derived.Test.YtpagpmioopaciaaGreatPFSeal
import Derived.Test.YtpagpmioopaciaaGreatPFName
import Derived.Test.YtpagpmioopaciaaGreatPAudS
set_option linter.unusedVariables false
set_option linter.unusedSimpArgs false
namespace Go.Proofs.YtpagpmioopaciaaGreat
open Go.Mo Go.RowKit
theorem recAt59 : FlatAt Tryz.prog 46 recT := flatAt_of (by kernel_rfl)
theorem aud_Check (r : Rec) (w0 : World) (hz : r.actor.size ≤ 4294967296 ∧ r.reason.size ≤ 4294967296) : Does Tryz.prog 33 #[.agg ⟨recC r⟩] w0 fun v w' => v = .int .i64 (checkR r) ∧ Hp w0 [] w' [] := by
 refine does_of (l := [.agg ⟨recC r⟩]) Tryz.func33 (by kernel_rfl) rfl Tryz.ntmps33 rfl rfl (by kernel_rfl) ?_
 have hp := Hp.refl w0 []
 refine GW_seq ?_
 refine GW_region ?_
 refine GL_box (wn_none rfl) rfl rfl rfl rfl hp ?_
 intro g w hp
 refine GL_rd (v := .int _ _) (wn_none rfl) rfl (rd_assign rfl rfl) ?_
 refine GL_nil ?_
 refine GW_seq ?_
 refine GW_seq ?_
 refine GW_region ?_
 refine GL_rd (wn_none rfl) rfl (rd_field rfl rfl fa46_0 _ rfl) ?_
 refine GL_rd (wn_none rfl) rfl (rd_load rfl rfl Tryz.underlying3 rfl ((cell_of_cells (hp.get 0 rfl) _).trans (rec_kind _))) ?_
 refine GL_rd (wn_none rfl) rfl (rd_bin rfl rfl rfl bo_lss) ?_
 refine GL_rd (v := .bool _) (wn_none rfl) rfl (rd_move rfl rfl) ?_
 refine GL_split (t := 6) (b := _) rfl ?_ ?_
 ·intro hb; (try simp only [decide_eq_true_eq, decide_eq_false_iff_not, Bool.not_eq_true', Bool.not_eq_false', Bool.not_eq_eq_eq_not, Bool.not_true, Bool.not_false, Int.not_lt, Int.not_le] at hb)
  refine GL_pass (nw_off rfl rfl rfl rfl rfl) rfl ?_
  refine GL_pass (nw_off rfl rfl rfl rfl rfl) rfl ?_
  refine GL_pass (nw_off rfl rfl rfl rfl rfl) rfl ?_
  refine GL_rd (v := .bool _) (wn_none rfl) rfl (rd_pickT rfl rfl rfl) ?_
  refine GL_nil ?_
  refine GW_true rfl ?_
  refine GW_seq ?_
  refine GW_region ?_
  refine GL_rd (v := .int _ _) (wn_none rfl) rfl (rd_assign rfl rfl) ?_
  refine GL_nil ?_
  refine GW_ret ?_
  have ec : checkR r = _ := checkR_1 (by omega)
  exact ⟨_, res1 Tryz.results33 (rv_tmp (v := .int _ _) rfl rfl), by rw [ec], hp.mods⟩
 ·intro hb; (try simp only [decide_eq_true_eq, decide_eq_false_iff_not, Bool.not_eq_true', Bool.not_eq_false', Bool.not_eq_eq_eq_not, Bool.not_true, Bool.not_false, Int.not_lt, Int.not_le] at hb)
  refine GL_rd (wn_on rfl rfl rfl rfl) rfl (rd_field rfl rfl fa46_0 _ rfl) ?_
  refine GL_rd (wn_on rfl rfl rfl rfl) rfl (rd_load rfl rfl Tryz.underlying3 rfl ((cell_of_cells (hp.get 0 rfl) _).trans (rec_kind _))) ?_
  refine GL_rd (wn_on rfl rfl rfl rfl) rfl (rd_bin rfl rfl rfl bo_gtr) ?_
  refine GL_rd (v := .bool _) (wn_none rfl) rfl (rd_pickF rfl rfl rfl) ?_
  refine GL_nil ?_
  refine GW_cond rfl (fun hb2 => ?_) (fun hb2 => ?_)
  ·(try simp only [decide_eq_true_eq, decide_eq_false_iff_not, Bool.not_eq_true', Bool.not_eq_false', Bool.not_eq_eq_eq_not, Bool.not_true, Bool.not_false, Int.not_lt, Int.not_le] at hb2)
   refine GW_seq ?_
   refine GW_region ?_
   refine GL_rd (v := .int _ _) (wn_none rfl) rfl (rd_assign rfl rfl) ?_
   refine GL_nil ?_
   refine GW_ret ?_
   have ec : checkR r = _ := checkR_1 (by omega)
   exact ⟨_, res1 Tryz.results33 (rv_tmp (v := .int _ _) rfl rfl), by rw [ec], hp.mods⟩
  ·(try simp only [decide_eq_true_eq, decide_eq_false_iff_not, Bool.not_eq_true', Bool.not_eq_false', Bool.not_eq_eq_eq_not, Bool.not_true, Bool.not_false, Int.not_lt, Int.not_le] at hb2)
   refine GW_skip ?_
   refine GW_seq ?_
   refine GW_seq ?_
   refine GW_region ?_
   refine GL_rd (wn_none rfl) rfl (rd_field rfl rfl fa46_1 _ rfl) ?_
   refine GL_rd (wn_none rfl) rfl (rd_load rfl rfl Tryz.underlying3 rfl ((cell_of_cells (hp.get 0 rfl) _).trans (rec_time _))) ?_
   refine GL_rd (wn_none rfl) rfl (rd_bin rfl rfl rfl bo_lss) ?_
   refine GL_rd (v := .bool _) (wn_none rfl) rfl (rd_move rfl rfl) ?_
   refine GL_split (t := 14) (b := _) rfl ?_ ?_
   ·intro hb3; (try simp only [decide_eq_true_eq, decide_eq_false_iff_not, Bool.not_eq_true', Bool.not_eq_false', Bool.not_eq_eq_eq_not, Bool.not_true, Bool.not_false, Int.not_lt, Int.not_le] at hb3)
    refine GL_pass (nw_off rfl rfl rfl rfl rfl) rfl ?_
    refine GL_pass (nw_off rfl rfl rfl rfl rfl) rfl ?_
    refine GL_pass (nw_off rfl rfl rfl rfl rfl) rfl ?_
    refine GL_rd (v := .bool _) (wn_none rfl) rfl (rd_pickT rfl rfl rfl) ?_
    refine GL_nil ?_
    refine GW_true rfl ?_
    refine GW_seq ?_
    refine GW_region ?_
    refine GL_rd (v := .int _ _) (wn_none rfl) rfl (rd_assign rfl rfl) ?_
    refine GL_nil ?_
    refine GW_ret ?_
    have ec : checkR r = _ := checkR_2 (by omega) (by omega)
    exact ⟨_, res1 Tryz.results33 (rv_tmp (v := .int _ _) rfl rfl), by rw [ec], hp.mods⟩
   ·intro hb3; (try simp only [decide_eq_true_eq, decide_eq_false_iff_not, Bool.not_eq_true', Bool.not_eq_false', Bool.not_eq_eq_eq_not, Bool.not_true, Bool.not_false, Int.not_lt, Int.not_le] at hb3)
    refine GL_rd (wn_on rfl rfl rfl rfl) rfl (rd_field rfl rfl fa46_1 _ rfl) ?_
    refine GL_rd (wn_on rfl rfl rfl rfl) rfl (rd_load rfl rfl Tryz.underlying3 rfl ((cell_of_cells (hp.get 0 rfl) _).trans (rec_time _))) ?_
    refine GL_rd (wn_on rfl rfl rfl rfl) rfl (rd_bin rfl rfl rfl bo_gtr) ?_
    refine GL_rd (v := .bool _) (wn_none rfl) rfl (rd_pickF rfl rfl rfl) ?_
    refine GL_nil ?_
    refine GW_cond rfl (fun hb4 => ?_) (fun hb4 => ?_)
    ·(try simp only [decide_eq_true_eq, decide_eq_false_iff_not, Bool.not_eq_true', Bool.not_eq_false', Bool.not_eq_eq_eq_not, Bool.not_true, Bool.not_false, Int.not_lt, Int.not_le] at hb4)
     refine GW_seq ?_
     refine GW_region ?_
     refine GL_rd (v := .int _ _) (wn_none rfl) rfl (rd_assign rfl rfl) ?_
     refine GL_nil ?_
     refine GW_ret ?_
     have ec : checkR r = _ := checkR_2 (by omega) (by omega)
     exact ⟨_, res1 Tryz.results33 (rv_tmp (v := .int _ _) rfl rfl), by rw [ec], hp.mods⟩
    ·(try simp only [decide_eq_true_eq, decide_eq_false_iff_not, Bool.not_eq_true', Bool.not_eq_false', Bool.not_eq_eq_eq_not, Bool.not_true, Bool.not_false, Int.not_lt, Int.not_le] at hb4)
     refine GW_skip ?_
     refine GW_seq ?_
     refine GW_seq ?_
     refine GW_region ?_
     refine GL_rd (wn_none rfl) rfl (rd_field rfl rfl fa46_4 _ rfl) ?_
     refine GL_rd (wn_none rfl) rfl (rd_load rfl rfl Tryz.underlying9 rfl ((cell_of_cells (hp.get 0 rfl) _).trans (rec_reason _))) ?_
     refine GL_rd (wn_none rfl) rfl (rd_lenS rfl rfl Tryz.underlying9) ?_
     refine GL_rd (wn_none rfl) rfl (rd_bin rfl rfl rfl bo_gtr) ?_
     refine GL_nil ?_
     refine GW_cond rfl (fun hb5 => ?_) (fun hb5 => ?_)
     ·(try simp only [decide_eq_true_eq, decide_eq_false_iff_not, Bool.not_eq_true', Bool.not_eq_false', Bool.not_eq_eq_eq_not, Bool.not_true, Bool.not_false, Int.not_lt, Int.not_le] at hb5)
      refine GW_seq ?_
      refine GW_region ?_
      refine GL_rd (v := .int _ _) (wn_none rfl) rfl (rd_assign rfl rfl) ?_
      refine GL_nil ?_
      refine GW_ret ?_
      have ec : checkR r = _ := checkR_3 (by omega) (by omega) (by omega)
      exact ⟨_, res1 Tryz.results33 (rv_tmp (v := .int _ _) rfl rfl), by rw [ec], hp.mods⟩
     ·(try simp only [decide_eq_true_eq, decide_eq_false_iff_not, Bool.not_eq_true', Bool.not_eq_false', Bool.not_eq_eq_eq_not, Bool.not_true, Bool.not_false, Int.not_lt, Int.not_le] at hb5)
      refine GW_skip ?_
      refine GW_seq ?_
      refine GW_region ?_
      refine GL_rd (wn_none rfl) rfl (rd_field rfl rfl fa46_2 _ rfl) ?_
      refine GL_rd (wn_none rfl) rfl (rd_load rfl rfl Tryz.underlying9 rfl ((cell_of_cells (hp.get 0 rfl) _).trans (rec_actor _))) ?_
      refine GL_call (wn_none rfl) rfl rfl (cl_Name r.actor _ (by omega)) rfl ?_
      rintro _ w ⟨rfl, hk⟩
      have hp := hp.comp hk
      refine GL_rd (v := .int _ _) (wn_none rfl) rfl (rd_assign rfl rfl) ?_
      refine GL_nil ?_
      refine GW_ret ?_
      have ec : checkR r = _ := checkR_4 (by omega) (by omega) (by omega)
      exact ⟨_, res1 Tryz.results33 (rv_tmp (v := .int _ _) rfl rfl), by rw [ec], hp.mods⟩
theorem ref_audCheck (r : Rec) (w0 : World) (hz : r.actor.size ≤ 4294967296 ∧ r.reason.size ≤ 4294967296) : Does Tryz.prog 35 #[.agg ⟨recC r⟩] w0 fun v w' => v = .int .i64 (checkR r) ∧ Hp w0 [] w' [] := by
 refine does_of (l := [.agg ⟨recC r⟩]) Tryz.func35 (by kernel_rfl) rfl Tryz.ntmps35 rfl rfl (by kernel_rfl) ?_
 have hp := Hp.refl w0 []
 refine GW_seq ?_
 refine GW_region ?_
 refine GL_box (wn_none rfl) rfl rfl rfl rfl hp ?_
 intro g w hp
 refine GL_rd (v := .int _ _) (wn_none rfl) rfl (rd_assign rfl rfl) ?_
 refine GL_nil ?_
 refine GW_seq ?_
 refine GW_seq ?_
 refine GW_region ?_
 refine GL_rd (wn_none rfl) rfl (rd_field rfl rfl fa46_0 _ rfl) ?_
 refine GL_rd (wn_none rfl) rfl (rd_load rfl rfl Tryz.underlying3 rfl ((cell_of_cells (hp.get 0 rfl) _).trans (rec_kind _))) ?_
 refine GL_rd (wn_none rfl) rfl (rd_bin rfl rfl rfl bo_lss) ?_
 refine GL_rd (v := .bool _) (wn_none rfl) rfl (rd_move rfl rfl) ?_
 refine GL_split (t := 6) (b := _) rfl ?_ ?_
 ·intro hb; (try simp only [decide_eq_true_eq, decide_eq_false_iff_not, Bool.not_eq_true', Bool.not_eq_false', Bool.not_eq_eq_eq_not, Bool.not_true, Bool.not_false, Int.not_lt, Int.not_le] at hb)
  refine GL_pass (nw_off rfl rfl rfl rfl rfl) rfl ?_
  refine GL_pass (nw_off rfl rfl rfl rfl rfl) rfl ?_
  refine GL_pass (nw_off rfl rfl rfl rfl rfl) rfl ?_
  refine GL_rd (v := .bool _) (wn_none rfl) rfl (rd_pickT rfl rfl rfl) ?_
  refine GL_nil ?_
  refine GW_true rfl ?_
  refine GW_seq ?_
  refine GW_region ?_
  refine GL_rd (v := .int _ _) (wn_none rfl) rfl (rd_assign rfl rfl) ?_
  refine GL_nil ?_
  refine GW_ret ?_
  have ec : checkR r = _ := checkR_1 (by omega)
  exact ⟨_, res1 Tryz.results35 (rv_tmp (v := .int _ _) rfl rfl), by rw [ec], hp.mods⟩
 ·intro hb; (try simp only [decide_eq_true_eq, decide_eq_false_iff_not, Bool.not_eq_true', Bool.not_eq_false', Bool.not_eq_eq_eq_not, Bool.not_true, Bool.not_false, Int.not_lt, Int.not_le] at hb)
  refine GL_rd (wn_on rfl rfl rfl rfl) rfl (rd_field rfl rfl fa46_0 _ rfl) ?_
  refine GL_rd (wn_on rfl rfl rfl rfl) rfl (rd_load rfl rfl Tryz.underlying3 rfl ((cell_of_cells (hp.get 0 rfl) _).trans (rec_kind _))) ?_
  refine GL_rd (wn_on rfl rfl rfl rfl) rfl (rd_bin rfl rfl rfl bo_gtr) ?_
  refine GL_rd (v := .bool _) (wn_none rfl) rfl (rd_pickF rfl rfl rfl) ?_
  refine GL_nil ?_
  refine GW_cond rfl (fun hb2 => ?_) (fun hb2 => ?_)
  ·(try simp only [decide_eq_true_eq, decide_eq_false_iff_not, Bool.not_eq_true', Bool.not_eq_false', Bool.not_eq_eq_eq_not, Bool.not_true, Bool.not_false, Int.not_lt, Int.not_le] at hb2)
   refine GW_seq ?_
   refine GW_region ?_
   refine GL_rd (v := .int _ _) (wn_none rfl) rfl (rd_assign rfl rfl) ?_
   refine GL_nil ?_
   refine GW_ret ?_
   have ec : checkR r = _ := checkR_1 (by omega)
   exact ⟨_, res1 Tryz.results35 (rv_tmp (v := .int _ _) rfl rfl), by rw [ec], hp.mods⟩
  ·(try simp only [decide_eq_true_eq, decide_eq_false_iff_not, Bool.not_eq_true', Bool.not_eq_false', Bool.not_eq_eq_eq_not, Bool.not_true, Bool.not_false, Int.not_lt, Int.not_le] at hb2)
   refine GW_skip ?_
   refine GW_seq ?_
   refine GW_seq ?_
   refine GW_region ?_
   refine GL_rd (wn_none rfl) rfl (rd_field rfl rfl fa46_1 _ rfl) ?_
   refine GL_rd (wn_none rfl) rfl (rd_load rfl rfl Tryz.underlying3 rfl ((cell_of_cells (hp.get 0 rfl) _).trans (rec_time _))) ?_
   refine GL_rd (wn_none rfl) rfl (rd_bin rfl rfl rfl bo_lss) ?_
   refine GL_rd (v := .bool _) (wn_none rfl) rfl (rd_move rfl rfl) ?_
   refine GL_split (t := 14) (b := _) rfl ?_ ?_
   ·intro hb3; (try simp only [decide_eq_true_eq, decide_eq_false_iff_not, Bool.not_eq_true', Bool.not_eq_false', Bool.not_eq_eq_eq_not, Bool.not_true, Bool.not_false, Int.not_lt, Int.not_le] at hb3)
    refine GL_pass (nw_off rfl rfl rfl rfl rfl) rfl ?_
    refine GL_pass (nw_off rfl rfl rfl rfl rfl) rfl ?_
    refine GL_pass (nw_off rfl rfl rfl rfl rfl) rfl ?_
    refine GL_rd (v := .bool _) (wn_none rfl) rfl (rd_pickT rfl rfl rfl) ?_
    refine GL_nil ?_
    refine GW_true rfl ?_
    refine GW_seq ?_
    refine GW_region ?_
    refine GL_rd (v := .int _ _) (wn_none rfl) rfl (rd_assign rfl rfl) ?_
    refine GL_nil ?_
    refine GW_ret ?_
    have ec : checkR r = _ := checkR_2 (by omega) (by omega)
    exact ⟨_, res1 Tryz.results35 (rv_tmp (v := .int _ _) rfl rfl), by rw [ec], hp.mods⟩
   ·intro hb3; (try simp only [decide_eq_true_eq, decide_eq_false_iff_not, Bool.not_eq_true', Bool.not_eq_false', Bool.not_eq_eq_eq_not, Bool.not_true, Bool.not_false, Int.not_lt, Int.not_le] at hb3)
    refine GL_rd (wn_on rfl rfl rfl rfl) rfl (rd_field rfl rfl fa46_1 _ rfl) ?_
    refine GL_rd (wn_on rfl rfl rfl rfl) rfl (rd_load rfl rfl Tryz.underlying3 rfl ((cell_of_cells (hp.get 0 rfl) _).trans (rec_time _))) ?_
    refine GL_rd (wn_on rfl rfl rfl rfl) rfl (rd_bin rfl rfl rfl bo_gtr) ?_
    refine GL_rd (v := .bool _) (wn_none rfl) rfl (rd_pickF rfl rfl rfl) ?_
    refine GL_nil ?_
    refine GW_cond rfl (fun hb4 => ?_) (fun hb4 => ?_)
    ·(try simp only [decide_eq_true_eq, decide_eq_false_iff_not, Bool.not_eq_true', Bool.not_eq_false', Bool.not_eq_eq_eq_not, Bool.not_true, Bool.not_false, Int.not_lt, Int.not_le] at hb4)
     refine GW_seq ?_
     refine GW_region ?_
     refine GL_rd (v := .int _ _) (wn_none rfl) rfl (rd_assign rfl rfl) ?_
     refine GL_nil ?_
     refine GW_ret ?_
     have ec : checkR r = _ := checkR_2 (by omega) (by omega)
     exact ⟨_, res1 Tryz.results35 (rv_tmp (v := .int _ _) rfl rfl), by rw [ec], hp.mods⟩
    ·(try simp only [decide_eq_true_eq, decide_eq_false_iff_not, Bool.not_eq_true', Bool.not_eq_false', Bool.not_eq_eq_eq_not, Bool.not_true, Bool.not_false, Int.not_lt, Int.not_le] at hb4)
     refine GW_skip ?_
     refine GW_seq ?_
     refine GW_seq ?_
     refine GW_region ?_
     refine GL_rd (wn_none rfl) rfl (rd_field rfl rfl fa46_4 _ rfl) ?_
     refine GL_rd (wn_none rfl) rfl (rd_load rfl rfl Tryz.underlying9 rfl ((cell_of_cells (hp.get 0 rfl) _).trans (rec_reason _))) ?_
     refine GL_rd (wn_none rfl) rfl (rd_lenS rfl rfl Tryz.underlying9) ?_
     refine GL_rd (wn_none rfl) rfl (rd_bin rfl rfl rfl bo_gtr) ?_
     refine GL_nil ?_
     refine GW_cond rfl (fun hb5 => ?_) (fun hb5 => ?_)
     ·(try simp only [decide_eq_true_eq, decide_eq_false_iff_not, Bool.not_eq_true', Bool.not_eq_false', Bool.not_eq_eq_eq_not, Bool.not_true, Bool.not_false, Int.not_lt, Int.not_le] at hb5)
      refine GW_seq ?_
      refine GW_region ?_
      refine GL_rd (v := .int _ _) (wn_none rfl) rfl (rd_assign rfl rfl) ?_
      refine GL_nil ?_
      refine GW_ret ?_
      have ec : checkR r = _ := checkR_3 (by omega) (by omega) (by omega)
      exact ⟨_, res1 Tryz.results35 (rv_tmp (v := .int _ _) rfl rfl), by rw [ec], hp.mods⟩
     ·(try simp only [decide_eq_true_eq, decide_eq_false_iff_not, Bool.not_eq_true', Bool.not_eq_false', Bool.not_eq_eq_eq_not, Bool.not_true, Bool.not_false, Int.not_lt, Int.not_le] at hb5)
      refine GW_skip ?_
      refine GW_seq ?_
      refine GW_region ?_
      refine GL_rd (wn_none rfl) rfl (rd_field rfl rfl fa46_2 _ rfl) ?_
      refine GL_rd (wn_none rfl) rfl (rd_load rfl rfl Tryz.underlying9 rfl ((cell_of_cells (hp.get 0 rfl) _).trans (rec_actor _))) ?_
      refine GL_call (wn_none rfl) rfl rfl (ref_clName r.actor _ (by omega)) rfl ?_
      rintro _ w ⟨rfl, hk⟩
      have hp := hp.comp hk
      refine GL_rd (v := .int _ _) (wn_none rfl) rfl (rd_assign rfl rfl) ?_
      refine GL_nil ?_
      refine GW_ret ?_
      have ec : checkR r = _ := checkR_4 (by omega) (by omega) (by omega)
      exact ⟨_, res1 Tryz.results35 (rv_tmp (v := .int _ _) rfl rfl), by rw [ec], hp.mods⟩
theorem aud_said (r : Rec) (w0 : World) (hz : r.actor.size ≤ 4294967296 ∧ r.reason.size ≤ 4294967296) : Does Tryz.prog 45 #[.agg ⟨recC r⟩] w0 fun v w' => Hp w0 [] w' [.row 5 1 v (saidR r).length (bys (saidR r))] := by
 have hl1 := pad_le r.actor.data.toList 16
 have hl2 := pad_le r.reason.data.toList 32
 have hl3 := saidR_le r
 refine does_of (l := [.agg ⟨recC r⟩]) Tryz.func45 (by kernel_rfl) rfl Tryz.ntmps45 rfl rfl (by kernel_rfl) ?_
 have hp := Hp.refl w0 []
 refine GW_seq ?_
 refine GW_region ?_
 refine GL_box (wn_none rfl) rfl rfl rfl rfl hp ?_
 intro g w hp
 refine GL_rd (v := .slice _ _ _) (wn_none rfl) rfl (rd_assign rfl rfl) ?_
 refine GL_nil ?_
 refine GW_seq ?_
 refine GW_region ?_
 refine GL_lit (L := (bys [65, 85, 68, 84])) (wn_none rfl) rfl rfl Tryz.underlying35 ts5 tz5 rfl (by kernel_rfl) rfl rfl hp ?_
 intro g2 w hp
 refine GL_convB (i := 0) (wn_none rfl) rfl rfl rfl Tryz.underlying35 Tryz.underlying5 hp rfl ?_
 intro w hp
 refine GL_rd (wn_none rfl) rfl (rd_field rfl rfl fa46_0 _ rfl) ?_
 refine GL_rd (wn_none rfl) rfl (rd_load rfl rfl Tryz.underlying3 rfl ((cell_of_cells (hp.get 1 rfl) _).trans (rec_kind _))) ?_
 refine GL_rd (wn_none rfl) rfl (rd_convE (q := ((kB r.kind).toNat : Int)) rfl rfl Tryz.underlying5 Tryz.underlying3 (by simp) (kB_wrap _)) ?_
 refine GL_lit (L := (bys [kB r.kind])) (wn_none rfl) rfl rfl Tryz.underlying35 ts5 tz5 rfl (by kernel_rfl) rfl rfl hp ?_
 intro g3 w hp
 refine GL_appendFull (wn_none rfl) rfl rfl rfl rfl Tryz.underlying35 ti5 rfl (by decide) hp (Sl.blk (hp.get 1 rfl) 1 _ rfl (by simp [maxLen])) (Sl.row (hp.get 0 rfl)) (by omega) (by decide) (by omega) (by omega) (by omega) ?_
 intro v w hp
 obtain ⟨Av, cv, rfl⟩ := row_shape (hp.get 0 rfl)
 rw [← bys_append] at hp
 refine GL_rd (v := .slice _ _ _) (wn_none rfl) rfl (rd_assign rfl rfl) ?_
 refine GL_nil ?_
 refine GW_seq ?_
 refine GW_region ?_
 refine GL_rd (v := .slice _ _ _) (wn_none rfl) rfl (rd_move rfl rfl) ?_
 refine GL_rd (wn_none rfl) rfl (rd_field rfl rfl fa46_1 _ rfl) ?_
 refine GL_rd (wn_none rfl) rfl (rd_load rfl rfl Tryz.underlying3 rfl ((cell_of_cells (hp.get 3 rfl) _).trans (rec_time _))) ?_
 refine GL_rd (wn_none rfl) rfl (rd_convE (q := (u64N r.time : Int)) rfl rfl Tryz.underlying62 Tryz.underlying3 (by simp) (u64_wrapN _)) ?_
 refine GL_call (wn_none rfl) rfl rfl (word_Put (u64N r.time) 6 _ (u64N_lt _) (by decide)) rfl ?_
 rintro _ w ⟨q, rfl, hk⟩
 have hp := hp.comp hk
 refine GL_append (i := 1) (wn_none rfl) rfl rfl rfl rfl Tryz.underlying35 ti5 rfl (by decide) hp rfl (Sl.row (hp.get 0 rfl)) (bys_one _) (by omega) (by omega) ?_
 intro v2 w hp
 obtain ⟨Av2, cv2, rfl⟩ := row_shape (hp.get 1 rfl)
 rw [← bys_append] at hp
 refine GL_rd (v := .slice _ _ _) (wn_none rfl) rfl (rd_assign rfl rfl) ?_
 refine GL_nil ?_
 refine GW_seq ?_
 refine GW_region ?_
 refine GL_rd (wn_none rfl) rfl (rd_field rfl rfl fa46_2 _ rfl) ?_
 refine GL_rd (wn_none rfl) rfl (rd_load rfl rfl Tryz.underlying9 rfl ((cell_of_cells (hp.get 4 rfl) _).trans (rec_actor _))) ?_
 refine GL_call (wn_none rfl) rfl rfl (word_Pad r.actor 16 _ (by omega)) rfl ?_
 rintro _ w ⟨tA, rfl, hk⟩
 have hp := hp.comp hk
 refine GL_rd (v := .tuple _) (wn_none rfl) rfl (rd_move rfl rfl) ?_
 refine GL_rd (v := tA) (wn_none rfl) rfl (rd_extract rfl rfl rfl) ?_
 refine GL_rd (v := .int _ _) (wn_none rfl) rfl (rd_extract rfl rfl rfl) ?_
 refine GL_rd (v := tA) (wn_none rfl) rfl (rd_assign rfl rfl) ?_
 refine GL_rd (v := .int _ _) (wn_none rfl) rfl (rd_assign rfl rfl) ?_
 refine GL_nil ?_
 refine GW_seq ?_
 refine GW_region ?_
 refine GL_rd (wn_none rfl) rfl (rd_field rfl rfl fa46_4 _ rfl) ?_
 refine GL_rd (wn_none rfl) rfl (rd_load rfl rfl Tryz.underlying9 rfl ((cell_of_cells (hp.get 5 rfl) _).trans (rec_reason _))) ?_
 refine GL_call (wn_none rfl) rfl rfl (word_Pad r.reason 32 _ (by omega)) rfl ?_
 rintro _ w ⟨tR, rfl, hk⟩
 have hp := hp.comp hk
 refine GL_rd (v := .tuple _) (wn_none rfl) rfl (rd_move rfl rfl) ?_
 refine GL_rd (v := tR) (wn_none rfl) rfl (rd_extract rfl rfl rfl) ?_
 refine GL_rd (v := .int _ _) (wn_none rfl) rfl (rd_extract rfl rfl rfl) ?_
 refine GL_rd (v := tR) (wn_none rfl) rfl (rd_assign rfl rfl) ?_
 refine GL_rd (v := .int _ _) (wn_none rfl) rfl (rd_assign rfl rfl) ?_
 refine GL_nil ?_
 refine GW_seq ?_
 refine GW_region ?_
 refine GL_rd (v := .slice _ _ _) (wn_none rfl) rfl (rd_move rfl rfl) ?_
 refine GL_rd (v := tA) (wn_none rfl) rfl (rd_move rfl rfl) ?_
 refine GL_append (i := 3) (wn_none rfl) rfl rfl rfl rfl Tryz.underlying35 ti5 rfl (by decide) hp rfl (Sl.row (hp.get 1 rfl)) (bys_one _) (by omega) (by omega) ?_
 intro v3 w hp
 obtain ⟨Av3, cv3, rfl⟩ := row_shape (hp.get 3 rfl)
 rw [← bys_append] at hp
 refine GL_rd (v := tR) (wn_none rfl) rfl (rd_move rfl rfl) ?_
 refine GL_append (i := 3) (wn_none rfl) rfl rfl rfl rfl Tryz.underlying35 ti5 rfl (by decide) hp rfl (Sl.row (hp.get 0 rfl)) (bys_one _) (by omega) (by omega) ?_
 intro v4 w hp
 obtain ⟨Av4, cv4, rfl⟩ := row_shape (hp.get 3 rfl)
 rw [← bys_append] at hp
 refine GL_rd (v := .slice _ _ _) (wn_none rfl) rfl (rd_assign rfl rfl) ?_
 refine GL_nil ?_
 refine GW_seq ?_
 refine GW_drawnK 8 (.one 0 true (.one 1 true (.one 2 true (.one 4 true (.one 5 true (.one 3 false (.one 6 false (.one 7 true .nil)))))))) mixed (by kernel_rfl) hp (fun _ h => (h.sub (.cons _ (.cons _ (.cons _ (.cons _ (.cons _ (.cons _ (.cons_cons _ .slnil))))))))) fun w hp => ?_
 have hpS := (hp.sub (.cons _ (.cons _ (.cons _ (.cons _ (.cons _ (.cons _ (.cons_cons _ .slnil))))))))
 refine GO_rdT (v := .slice _ _ _) rfl (wn_none rfl) rfl (fun w => (rd_move rfl rfl)) ?_
 refine GO_rdT rfl (wn_none rfl) rfl (fun w => (rd_field rfl rfl fa46_3 _ rfl)) ?_
 refine GO_rd rfl rfl (wn_none rfl) rfl hpS (fun w hp => (rd_sliceA (lo := 0) (hi := 32) rfl rfl Tryz.underlying30 ts5 at_none to_none (by decide) (by decide) (by decide) _ rfl)) ?_
 refine GO_rdT rfl (wn_none rfl) rfl (fun w => (rd_field rfl rfl fa46_5 _ rfl)) ?_
 refine GO_rd rfl rfl (wn_none rfl) rfl hpS (fun w hp => (rd_sliceA (lo := 0) (hi := 32) rfl rfl Tryz.underlying30 ts5 at_none to_none (by decide) (by decide) (by decide) _ rfl)) ?_
 refine GO_of_GL rfl ?_
 refine GL_append (i := 3) (wn_none rfl) rfl rfl rfl rfl Tryz.underlying35 ti5 rfl (by decide) hp rfl (Sl.cells (hp.get 6 rfl) 1 32 32 3 _ (rec_clipC r) (by rw [recC_len]; decide) (by decide) (by decide)) (bys_one _) (by omega) (by omega) ?_
 intro v5 w hp
 obtain ⟨Av5, cv5, rfl⟩ := row_shape (hp.get 3 rfl)
 rw [← bys_append] at hp
 have hpS2 := (hp.sub (.cons _ (.cons _ (.cons _ (.cons _ (.cons _ (.cons _ (.cons_cons _ .slnil))))))))
 refine GL_nil ⟨fun _ => hpS2, ?_⟩
 refine GO_of_GL rfl ?_
 refine GL_append (i := 3) (wn_none rfl) rfl rfl rfl rfl Tryz.underlying35 ti5 rfl (by decide) hp rfl (Sl.cells (hp.get 6 rfl) 1 32 32 36 _ (rec_prevC r) (by rw [recC_len]; decide) (by decide) (by decide)) (bys_one _) (by omega) (by omega) ?_
 intro v6 w hp
 rw [← bys_append] at hp
 have hpS3 := (hp.sub (.cons _ (.cons _ (.cons _ (.cons _ (.cons _ (.cons _ (.cons_cons _ .slnil))))))))
 refine GL_nil ⟨fun _ => hpS3, ?_⟩
 refine GO_rdT (v := v6) rfl (wn_none rfl) rfl (fun w => (rd_assign rfl rfl)) ?_
 refine GO_nil ?_
 refine GW_ret ?_
 have e : [65, 85, 68, 84] ++ [kB r.kind] ++ putL (u64N r.time) 6 ++ padL r.actor.data.toList 16 ++ padL r.reason.data.toList 32 ++ r.clip.1 ++ r.prev.1 = saidR r := by simp only [saidR, List.append_assoc]
 have hp := ((hp.front 3 rfl).take 1)
 replace hp := hp.cast (show _ = [Res.row 5 1 v6 _ (bys (saidR r))] by rw [← e]; rfl)
 have en := row_n (hp.get 0 rfl)
 rw [en] at hp
 exact ⟨_, res1 Tryz.results45 (rv_tmp (v := v6) rfl rfl), hp⟩
theorem ref_audSaid (r : Rec) (w0 : World) (hz : r.actor.size ≤ 4294967296 ∧ r.reason.size ≤ 4294967296) : Does Tryz.prog 50 #[.agg ⟨recC r⟩] w0 fun v w' => Hp w0 [] w' [.row 5 1 v (saidR r).length (bys (saidR r))] := by
 have hl1 := pad_le r.actor.data.toList 16
 have hl2 := pad_le r.reason.data.toList 32
 have hl3 := saidR_le r
 refine does_of (l := [.agg ⟨recC r⟩]) Tryz.func50 (by kernel_rfl) rfl Tryz.ntmps50 rfl rfl (by kernel_rfl) ?_
 have hp := Hp.refl w0 []
 refine GW_seq ?_
 refine GW_region ?_
 refine GL_box (wn_none rfl) rfl rfl rfl rfl hp ?_
 intro g w hp
 refine GL_rd (v := .slice _ _ _) (wn_none rfl) rfl (rd_assign rfl rfl) ?_
 refine GL_nil ?_
 refine GW_seq ?_
 refine GW_region ?_
 refine GL_lit (L := (bys [65, 85, 68, 84])) (wn_none rfl) rfl rfl Tryz.underlying35 ts5 tz5 rfl (by kernel_rfl) rfl rfl hp ?_
 intro g2 w hp
 refine GL_convB (i := 0) (wn_none rfl) rfl rfl rfl Tryz.underlying35 Tryz.underlying5 hp rfl ?_
 intro w hp
 refine GL_rd (v := .slice _ _ _) (wn_none rfl) rfl (rd_assign rfl rfl) ?_
 refine GL_nil ?_
 refine GW_seq ?_
 refine GW_region ?_
 refine GL_rd (v := .slice _ _ _) (wn_none rfl) rfl (rd_move rfl rfl) ?_
 refine GL_rd (wn_none rfl) rfl (rd_field rfl rfl fa46_0 _ rfl) ?_
 refine GL_rd (wn_none rfl) rfl (rd_load rfl rfl Tryz.underlying3 rfl ((cell_of_cells (hp.get 1 rfl) _).trans (rec_kind _))) ?_
 refine GL_rd (wn_none rfl) rfl (rd_convE (q := ((kB r.kind).toNat : Int)) rfl rfl Tryz.underlying5 Tryz.underlying3 (by simp) (kB_wrap _)) ?_
 refine GL_lit (L := (bys [kB r.kind])) (wn_none rfl) rfl rfl Tryz.underlying35 ts5 tz5 rfl (by kernel_rfl) rfl rfl hp ?_
 intro g3 w hp
 refine GL_appendFull (wn_none rfl) rfl rfl rfl rfl Tryz.underlying35 ti5 rfl (by decide) hp (Sl.blk (hp.get 1 rfl) 1 _ rfl (by simp [maxLen])) (Sl.row (hp.get 0 rfl)) (by omega) (by decide) (by omega) (by omega) (by omega) ?_
 intro v w hp
 obtain ⟨Av, cv, rfl⟩ := row_shape (hp.get 0 rfl)
 rw [← bys_append] at hp
 refine GL_rd (v := .slice _ _ _) (wn_none rfl) rfl (rd_assign rfl rfl) ?_
 refine GL_nil ?_
 refine GW_seq ?_
 refine GW_region ?_
 refine GL_rd (v := .slice _ _ _) (wn_none rfl) rfl (rd_move rfl rfl) ?_
 refine GL_rd (wn_none rfl) rfl (rd_field rfl rfl fa46_1 _ rfl) ?_
 refine GL_rd (wn_none rfl) rfl (rd_load rfl rfl Tryz.underlying3 rfl ((cell_of_cells (hp.get 3 rfl) _).trans (rec_time _))) ?_
 refine GL_rd (wn_none rfl) rfl (rd_convE (q := (u64N r.time : Int)) rfl rfl Tryz.underlying62 Tryz.underlying3 (by simp) (u64_wrapN _)) ?_
 refine GL_call (wn_none rfl) rfl rfl (ref_Put 6 (u64N r.time) 6 _ (u64N_lt _) (by decide) rfl) rfl ?_
 intro q w hk
 have hp := hp.comp hk
 refine GL_append (i := 1) (wn_none rfl) rfl rfl rfl rfl Tryz.underlying35 ti5 rfl (by decide) hp rfl (Sl.row (hp.get 0 rfl)) (bys_one _) (by omega) (by omega) ?_
 intro v2 w hp
 obtain ⟨Av2, cv2, rfl⟩ := row_shape (hp.get 1 rfl)
 rw [← bys_append] at hp
 refine GL_rd (v := .slice _ _ _) (wn_none rfl) rfl (rd_assign rfl rfl) ?_
 refine GL_nil ?_
 refine GW_seq ?_
 refine GW_region ?_
 refine GL_rd (wn_none rfl) rfl (rd_field rfl rfl fa46_2 _ rfl) ?_
 refine GL_rd (wn_none rfl) rfl (rd_load rfl rfl Tryz.underlying9 rfl ((cell_of_cells (hp.get 4 rfl) _).trans (rec_actor _))) ?_
 refine GL_call (wn_none rfl) rfl rfl (ref_Pad r.actor 16 _ (by omega)) rfl ?_
 rintro _ w ⟨tA, rfl, hk⟩
 have hp := hp.comp hk
 refine GL_rd (v := .tuple _) (wn_none rfl) rfl (rd_move rfl rfl) ?_
 refine GL_rd (v := tA) (wn_none rfl) rfl (rd_extract rfl rfl rfl) ?_
 refine GL_rd (v := .int _ _) (wn_none rfl) rfl (rd_extract rfl rfl rfl) ?_
 refine GL_rd (v := tA) (wn_none rfl) rfl (rd_assign rfl rfl) ?_
 refine GL_rd (v := .int _ _) (wn_none rfl) rfl (rd_assign rfl rfl) ?_
 refine GL_nil ?_
 refine GW_seq ?_
 refine GW_region ?_
 refine GL_rd (v := .slice _ _ _) (wn_none rfl) rfl (rd_move rfl rfl) ?_
 refine GL_rd (v := tA) (wn_none rfl) rfl (rd_move rfl rfl) ?_
 refine GL_append (i := 2) (wn_none rfl) rfl rfl rfl rfl Tryz.underlying35 ti5 rfl (by decide) hp rfl (Sl.row (hp.get 0 rfl)) (bys_one _) (by omega) (by omega) ?_
 intro v3 w hp
 obtain ⟨Av3, cv3, rfl⟩ := row_shape (hp.get 2 rfl)
 rw [← bys_append] at hp
 refine GL_rd (v := .slice _ _ _) (wn_none rfl) rfl (rd_assign rfl rfl) ?_
 refine GL_nil ?_
 refine GW_seq ?_
 refine GW_region ?_
 refine GL_rd (wn_none rfl) rfl (rd_field rfl rfl fa46_4 _ rfl) ?_
 refine GL_rd (wn_none rfl) rfl (rd_load rfl rfl Tryz.underlying9 rfl ((cell_of_cells (hp.get 5 rfl) _).trans (rec_reason _))) ?_
 refine GL_call (wn_none rfl) rfl rfl (ref_Pad r.reason 32 _ (by omega)) rfl ?_
 rintro _ w ⟨tR, rfl, hk⟩
 have hp := hp.comp hk
 refine GL_rd (v := .tuple _) (wn_none rfl) rfl (rd_move rfl rfl) ?_
 refine GL_rd (v := tR) (wn_none rfl) rfl (rd_extract rfl rfl rfl) ?_
 refine GL_rd (v := .int _ _) (wn_none rfl) rfl (rd_extract rfl rfl rfl) ?_
 refine GL_rd (v := tR) (wn_none rfl) rfl (rd_assign rfl rfl) ?_
 refine GL_rd (v := .int _ _) (wn_none rfl) rfl (rd_assign rfl rfl) ?_
 refine GL_nil ?_
 refine GW_seq ?_
 refine GW_region ?_
 refine GL_rd (v := .slice _ _ _) (wn_none rfl) rfl (rd_move rfl rfl) ?_
 refine GL_rd (v := tR) (wn_none rfl) rfl (rd_move rfl rfl) ?_
 refine GL_append (i := 3) (wn_none rfl) rfl rfl rfl rfl Tryz.underlying35 ti5 rfl (by decide) hp rfl (Sl.row (hp.get 0 rfl)) (bys_one _) (by omega) (by omega) ?_
 intro v4 w hp
 obtain ⟨Av4, cv4, rfl⟩ := row_shape (hp.get 3 rfl)
 rw [← bys_append] at hp
 refine GL_rd (v := .slice _ _ _) (wn_none rfl) rfl (rd_assign rfl rfl) ?_
 refine GL_nil ?_
 refine GW_seq ?_
 refine GW_seq ?_
 refine GW_region ?_
 refine GL_rd (v := .int _ _) (wn_none rfl) rfl (rd_assign rfl rfl) ?_
 refine GL_nil ?_
 refine GW_block ?_
 refine GW_loop ?_
 refine Lp_ind (α := Nat × Nat × Option Addr × Nat × List UInt8) (fun a_0 f_0 w' => match a_0 with | (i, n, A2, c2, xs) => ∃ fz, f_0 = (upd (upd (upd fz 1 (.pointer (some ⟨g, 0, none⟩))) 3 (.slice A2 n c2)) 8 (.int .i64 (i : Int))) ∧ Hp w0 [] w' [.row 5 1 (.slice A2 n c2) n (bys xs), cells g 46 (recC r)] ∧ (i ≤ 32) ∧ (n = (4 + 1 + 6 + (padL r.actor.data.toList 16).length + (padL r.reason.data.toList 32).length) + i) ∧ (xs = ([65, 85, 68, 84] ++ [kB r.kind] ++ putL (u64N r.time) 6 ++ padL r.actor.data.toList 16 ++ padL r.reason.data.toList 32) ++ (r.clip.1).take i)) (fun a_0 => match a_0 with | (i, n, A2, c2, xs) => 32 - i) ?_ (0, (4 + 1 + 6 + (padL r.actor.data.toList 16).length + (padL r.reason.data.toList 32).length), Av4, cv4, ([65, 85, 68, 84] ++ [kB r.kind] ++ putL (u64N r.time) 6 ++ padL r.actor.data.toList 16 ++ padL r.reason.data.toList 32)) _ _ ?_
 ·rintro ⟨i, n, A2, c2, xs⟩ f wz ⟨fz, rfl, hp, hi0, hn, hx⟩ ihL0
  refine Lp_round ?_
  refine GW_seq ?_
  refine GW_seq ?_
  refine GW_region ?_
  refine GL_rd (v := .int _ _) (wn_none rfl) rfl (rd_move rfl rfl) ?_
  refine GL_rd (wn_none rfl) rfl (rd_bin rfl rfl rfl bo_lss) ?_
  refine GL_nil ?_
  refine GW_cond rfl (fun hb => ?_) (fun hb => ?_)
  ·(try simp only [decide_eq_true_eq, decide_eq_false_iff_not, Bool.not_eq_true', Bool.not_eq_false', Bool.not_eq_eq_eq_not, Bool.not_true, Bool.not_false, Int.not_lt, Int.not_le] at hb)
   refine GW_skip ?_
   refine GW_seq ?_
   refine GW_block ?_
   refine GW_region ?_
   refine GL_rd (v := .slice _ _ _) (wn_none rfl) rfl (rd_move rfl rfl) ?_
   refine GL_rd (v := .int _ _) (wn_none rfl) rfl (rd_move rfl rfl) ?_
   refine GL_rd (wn_none rfl) rfl (rd_field rfl rfl fa46_3 _ rfl) ?_
   refine GL_rd (wn_none rfl) rfl (rd_indexA (j := i) rfl rfl rfl Tryz.underlying30 ts5 rfl (by omega) _ rfl) ?_
   refine GL_rd (wn_none rfl) rfl (rd_load rfl rfl Tryz.underlying5 rfl ((cell_of_cells (hp.get 1 rfl) _).trans (rec_byteClip r (by omega)))) ?_
   refine GL_lit (L := (bys [(r.clip.1).getD i 0])) (wn_none rfl) rfl rfl Tryz.underlying35 ts5 tz5 rfl (by kernel_rfl) rfl rfl hp ?_
   intro g4 w hp
   refine GL_append (i := 1) (wn_none rfl) rfl rfl rfl rfl Tryz.underlying35 ti5 rfl (by decide) hp rfl (Sl.row (hp.get 0 rfl)) (bys_one _) (by omega) (by omega) ?_
   intro v5 w hp
   obtain ⟨Av5, cv5, rfl⟩ := row_shape (hp.get 1 rfl)
   rw [← bys_append] at hp
   refine GL_rd (v := .slice _ _ _) (wn_none rfl) rfl (rd_assign rfl rfl) ?_
   refine GL_nil ?_
   refine GW_region ?_
   refine GL_rd (v := .int _ _) (wn_none rfl) rfl (rd_move rfl rfl) ?_
   refine GL_rd (wn_none rfl) rfl (rd_bin rfl rfl rfl (bo_add64 (by omega))) ?_
   refine GL_rd (v := .int _ _) (wn_none rfl) rfl (rd_assign rfl rfl) ?_
   refine GL_nil ?_
   have hp := (((hp.front 2 rfl).front 2 rfl).take 2)
   exact ihL0 (i + 1, _, _, _, _) _ _ (by simp only []; omega) ⟨_, slots3 rfl rfl rfl, hp, by omega, by omega, by rw [hx, List.append_assoc, List.take_succ_eq_append_getD (by rw [r.clip.2]; omega)]⟩
  ·(try simp only [decide_eq_true_eq, decide_eq_false_iff_not, Bool.not_eq_true', Bool.not_eq_false', Bool.not_eq_eq_eq_not, Bool.not_true, Bool.not_false, Int.not_lt, Int.not_le] at hb)
   obtain rfl : i = 32 := by omega
   refine GW_exit ?_
   refine GW_seq ?_
   refine GW_seq ?_
   refine GW_region ?_
   refine GL_rd (v := .int _ _) (wn_none rfl) rfl (rd_assign rfl rfl) ?_
   refine GL_nil ?_
   refine GW_block ?_
   refine GW_loop ?_
   refine Lp_ind (α := Nat × Nat × Option Addr × Nat × List UInt8) (fun a_0 f_0 w' => match a_0 with | (i, n, A2, c2, xs) => ∃ fz, f_0 = (upd (upd (upd fz 1 (.pointer (some ⟨g, 0, none⟩))) 3 (.slice A2 n c2)) 9 (.int .i64 (i : Int))) ∧ Hp w0 [] w' [.row 5 1 (.slice A2 n c2) n (bys xs), cells g 46 (recC r)] ∧ (i ≤ 32) ∧ (n = ((4 + 1 + 6 + (padL r.actor.data.toList 16).length + (padL r.reason.data.toList 32).length) + 32) + i) ∧ (xs = (([65, 85, 68, 84] ++ [kB r.kind] ++ putL (u64N r.time) 6 ++ padL r.actor.data.toList 16 ++ padL r.reason.data.toList 32) ++ r.clip.1) ++ (r.prev.1).take i)) (fun a_0 => match a_0 with | (i, n, A2, c2, xs) => 32 - i) ?_ (0, n, A2, c2, xs) _ _ ?_
   ·rintro ⟨i, n, A2, c2, xs⟩ f wz ⟨fz, rfl, hp, hi0, hn, hx⟩ ihL1
    refine Lp_round ?_
    refine GW_seq ?_
    refine GW_seq ?_
    refine GW_region ?_
    refine GL_rd (v := .int _ _) (wn_none rfl) rfl (rd_move rfl rfl) ?_
    refine GL_rd (wn_none rfl) rfl (rd_bin rfl rfl rfl bo_lss) ?_
    refine GL_nil ?_
    refine GW_cond rfl (fun hb2 => ?_) (fun hb2 => ?_)
    ·(try simp only [decide_eq_true_eq, decide_eq_false_iff_not, Bool.not_eq_true', Bool.not_eq_false', Bool.not_eq_eq_eq_not, Bool.not_true, Bool.not_false, Int.not_lt, Int.not_le] at hb2)
     refine GW_skip ?_
     refine GW_seq ?_
     refine GW_block ?_
     refine GW_region ?_
     refine GL_rd (v := .slice _ _ _) (wn_none rfl) rfl (rd_move rfl rfl) ?_
     refine GL_rd (v := .int _ _) (wn_none rfl) rfl (rd_move rfl rfl) ?_
     refine GL_rd (wn_none rfl) rfl (rd_field rfl rfl fa46_5 _ rfl) ?_
     refine GL_rd (wn_none rfl) rfl (rd_indexA (j := i) rfl rfl rfl Tryz.underlying30 ts5 rfl (by omega) _ rfl) ?_
     refine GL_rd (wn_none rfl) rfl (rd_load rfl rfl Tryz.underlying5 rfl ((cell_of_cells (hp.get 1 rfl) _).trans (rec_bytePrev r (by omega)))) ?_
     refine GL_lit (L := (bys [(r.prev.1).getD i 0])) (wn_none rfl) rfl rfl Tryz.underlying35 ts5 tz5 rfl (by kernel_rfl) rfl rfl hp ?_
     intro g5 w hp
     refine GL_append (i := 1) (wn_none rfl) rfl rfl rfl rfl Tryz.underlying35 ti5 rfl (by decide) hp rfl (Sl.row (hp.get 0 rfl)) (bys_one _) (by omega) (by omega) ?_
     intro v6 w hp
     obtain ⟨Av6, cv6, rfl⟩ := row_shape (hp.get 1 rfl)
     rw [← bys_append] at hp
     refine GL_rd (v := .slice _ _ _) (wn_none rfl) rfl (rd_assign rfl rfl) ?_
     refine GL_nil ?_
     refine GW_region ?_
     refine GL_rd (v := .int _ _) (wn_none rfl) rfl (rd_move rfl rfl) ?_
     refine GL_rd (wn_none rfl) rfl (rd_bin rfl rfl rfl (bo_add64 (by omega))) ?_
     refine GL_rd (v := .int _ _) (wn_none rfl) rfl (rd_assign rfl rfl) ?_
     refine GL_nil ?_
     have hp := (((hp.front 2 rfl).front 2 rfl).take 2)
     exact ihL1 (i + 1, _, _, _, _) _ _ (by simp only []; omega) ⟨_, slots3 rfl rfl rfl, hp, by omega, by omega, by rw [hx, List.append_assoc, List.take_succ_eq_append_getD (by rw [r.prev.2]; omega)]⟩
    ·(try simp only [decide_eq_true_eq, decide_eq_false_iff_not, Bool.not_eq_true', Bool.not_eq_false', Bool.not_eq_eq_eq_not, Bool.not_true, Bool.not_false, Int.not_lt, Int.not_le] at hb2)
     obtain rfl : i = 32 := by omega
     refine GW_exit ?_
     refine GW_seq ?_
     refine GW_region ?_
     refine GL_rd (v := .slice _ _ _) (wn_none rfl) rfl (rd_move rfl rfl) ?_
     refine GL_rd (v := .slice _ _ _) (wn_none rfl) rfl (rd_assign rfl rfl) ?_
     refine GL_nil ?_
     refine GW_ret ?_
     have e : xs = saidR r := by rw [hx, List.take_of_length_le (by rw [r.prev.2]; omega)]; simp only [saidR, List.append_assoc]
     subst e
     have en := row_n (hp.get 0 rfl)
     subst en
     have hp := ((hp.front 0 rfl).take 1)
     exact ⟨_, res1 Tryz.results50 (rv_tmp (v := .slice _ _ _) rfl rfl), hp⟩
   ·have hp := (((hp.front 1 rfl).front 1 rfl).take 2)
    refine ⟨_, slots3 rfl rfl rfl, hp, Nat.zero_le _, by omega, by rw [hx, List.take_of_length_le (by rw [r.clip.2]; omega), List.take_zero, List.append_nil]⟩
 ·have hp := (((hp.front 6 rfl).front 4 rfl).take 2)
  refine ⟨_, slots3 rfl rfl rfl, hp, Nat.zero_le _, by omega, by rw [List.take_zero, List.append_nil]⟩
theorem aud_Put (r : Rec) (w0 : World) (hz : r.actor.size ≤ 4294967296 ∧ r.reason.size ≤ 4294967296) : Does Tryz.prog 21 #[.agg ⟨recC r⟩] w0 fun v w' => ∃ sv, v = .tuple #[sv, .int .i64 (checkR r)] ∧ Hp w0 [] w' [.row 5 1 sv (putB r).length (bys (putB r))] := by
 have hl3 := saidR_le r
 refine does_of (l := [.agg ⟨recC r⟩]) Tryz.func21 (by kernel_rfl) rfl Tryz.ntmps21 rfl rfl (by kernel_rfl) ?_
 have hp := Hp.refl w0 []
 refine GW_seq ?_
 refine GW_region ?_
 refine GL_box (wn_none rfl) rfl rfl rfl rfl hp ?_
 intro g w hp
 refine GL_rd (v := .slice _ _ _) (wn_none rfl) rfl (rd_assign rfl rfl) ?_
 refine GL_rd (v := .int _ _) (wn_none rfl) rfl (rd_assign rfl rfl) ?_
 refine GL_nil ?_
 refine GW_seq ?_
 refine GW_seq ?_
 refine GW_region ?_
 refine GL_rd (wn_none rfl) rfl (rd_loadC rfl rfl Tryz.underlying46 rfl ts46 (hp.get 0 rfl) (recC_len _)) ?_
 refine GL_call (wn_none rfl) rfl rfl (aud_Check r _ hz) rfl ?_
 rintro _ w ⟨rfl, hk⟩
 have hp := hp.comp hk
 refine GL_rd (v := .int _ _) (wn_none rfl) rfl (rd_assign rfl rfl) ?_
 refine GL_nil ?_
 refine GW_seq ?_
 refine GW_region ?_
 refine GL_rd (v := .int _ _) (wn_none rfl) rfl (rd_move rfl rfl) ?_
 refine GL_rd (wn_none rfl) rfl (rd_bin rfl rfl rfl bo_neq) ?_
 refine GL_nil ?_
 refine GW_cond rfl (fun hb => ?_) (fun hb => ?_)
 ·(try simp only [decide_eq_true_eq, decide_eq_false_iff_not, Bool.not_eq_true', Bool.not_eq_false', Bool.not_eq_eq_eq_not, Bool.not_true, Bool.not_false, Int.not_lt, Int.not_le] at hb)
  have hc : ¬ checkR r = 0 := hb
  refine GW_seq ?_
  refine GW_region ?_
  refine GL_rd (v := .int _ _) (wn_none rfl) rfl (rd_move rfl rfl) ?_
  refine GL_rd (v := .slice _ _ _) (wn_none rfl) rfl (rd_assign rfl rfl) ?_
  refine GL_rd (v := .int _ _) (wn_none rfl) rfl (rd_assign rfl rfl) ?_
  refine GL_nil ?_
  refine GW_ret ?_
  have hp := hp.mods.nilRow 5 1
  have e : putB r = [] := putB_no hc
  refine ⟨_, res2 Tryz.results21 (rv_tmp (v := .slice _ _ _) rfl rfl) (rv_tmp (v := .int _ _) rfl rfl), .slice none 0 0, rfl, ?_⟩
  rw [e]; exact hp
 ·(try simp only [decide_eq_true_eq, decide_eq_false_iff_not, Bool.not_eq_true', Bool.not_eq_false', Bool.not_eq_eq_eq_not, Bool.not_true, Bool.not_false, Int.not_lt, Int.not_le] at hb)
  have hc : checkR r = 0 := hb
  refine GW_skip ?_
  refine GW_seq ?_
  refine GW_drawnK 7 (.one 0 true (.one 2 true (.one 3 true (.one 1 false (.one 4 false (.one 5 true (.one 6 true .nil))))))) mixed (by kernel_rfl) hp (fun _ h => h) fun w hp => ?_
  have hpS := hp
  refine GO_rd rfl rfl (wn_none rfl) rfl hpS (fun w hp => (rd_loadC rfl rfl Tryz.underlying46 rfl ts46 (hp.get 0 rfl) (recC_len _))) ?_
  refine GO_rdT rfl (wn_none rfl) rfl (fun w => (rd_field rfl rfl fa46_6 _ rfl)) ?_
  refine GO_rd rfl rfl (wn_none rfl) rfl hpS (fun w hp => (rd_sliceA (lo := 0) (hi := 32) rfl rfl Tryz.underlying30 ts5 at_none to_none (by decide) (by decide) (by decide) _ rfl)) ?_
  refine GO_of_GL rfl ?_
  refine GL_call (wn_none rfl) rfl rfl (aud_said r _ hz) rfl ?_
  intro vs w hk
  have hp := hp.comp hk
  have hpS2 := (hp.sub (.cons _ (.cons_cons _ .slnil)))
  refine GL_nil ⟨fun _ => hpS2, ?_⟩
  refine GO_of_GL rfl ?_
  refine GL_append (i := 0) (wn_none rfl) rfl rfl rfl rfl Tryz.underlying35 ti5 rfl (by decide) hp rfl (Sl.cells (hp.get 1 rfl) 1 32 32 68 _ (rec_sumC r) (by rw [recC_len]; decide) (by decide) (by decide)) (bys_one _) (by omega) (by omega) ?_
  intro v w hp
  rw [← bys_append] at hp
  have hpS3 := (hp.sub (.cons _ (.cons_cons _ .slnil)))
  refine GL_nil ⟨fun _ => hpS3, ?_⟩
  refine GO_rdT (v := v) rfl (wn_none rfl) rfl (fun w => (rd_assign rfl rfl)) ?_
  refine GO_rdT (v := .int _ _) rfl (wn_none rfl) rfl (fun w => (rd_assign rfl rfl)) ?_
  refine GO_nil ?_
  refine GW_ret ?_
  have hp := ((hp.front 0 rfl).take 1)
  replace hp := hp.cast (show _ = [Res.row 5 1 v _ (bys (putB r))] by rw [putB_yes hc]; rfl)
  have en := row_n (hp.get 0 rfl)
  rw [en] at hp
  exact ⟨_, res2 Tryz.results21 (rv_tmp (v := v) rfl rfl) (rv_tmp (v := .int _ _) rfl rfl), _, by rw [hc], hp⟩
theorem ref_audPut (r : Rec) (w0 : World) (hz : r.actor.size ≤ 4294967296 ∧ r.reason.size ≤ 4294967296) : Does Tryz.prog 24 #[.agg ⟨recC r⟩] w0 fun v w' => ∃ sv, v = .tuple #[sv, .int .i64 (checkR r)] ∧ Hp w0 [] w' [.row 5 1 sv (putB r).length (bys (putB r))] := by
 have hl3 := saidR_le r
 refine does_of (l := [.agg ⟨recC r⟩]) Tryz.func24 (by kernel_rfl) rfl Tryz.ntmps24 rfl rfl (by kernel_rfl) ?_
 have hp := Hp.refl w0 []
 refine GW_seq ?_
 refine GW_region ?_
 refine GL_box (wn_none rfl) rfl rfl rfl rfl hp ?_
 intro g w hp
 refine GL_rd (v := .slice _ _ _) (wn_none rfl) rfl (rd_assign rfl rfl) ?_
 refine GL_rd (v := .int _ _) (wn_none rfl) rfl (rd_assign rfl rfl) ?_
 refine GL_nil ?_
 refine GW_seq ?_
 refine GW_seq ?_
 refine GW_region ?_
 refine GL_rd (wn_none rfl) rfl (rd_loadC rfl rfl Tryz.underlying46 rfl ts46 (hp.get 0 rfl) (recC_len _)) ?_
 refine GL_call (wn_none rfl) rfl rfl (ref_audCheck r _ hz) rfl ?_
 rintro _ w ⟨rfl, hk⟩
 have hp := hp.comp hk
 refine GL_rd (v := .int _ _) (wn_none rfl) rfl (rd_assign rfl rfl) ?_
 refine GL_nil ?_
 refine GW_seq ?_
 refine GW_region ?_
 refine GL_rd (v := .int _ _) (wn_none rfl) rfl (rd_move rfl rfl) ?_
 refine GL_rd (wn_none rfl) rfl (rd_bin rfl rfl rfl bo_neq) ?_
 refine GL_nil ?_
 refine GW_cond rfl (fun hb => ?_) (fun hb => ?_)
 ·(try simp only [decide_eq_true_eq, decide_eq_false_iff_not, Bool.not_eq_true', Bool.not_eq_false', Bool.not_eq_eq_eq_not, Bool.not_true, Bool.not_false, Int.not_lt, Int.not_le] at hb)
  have hc : ¬ checkR r = 0 := hb
  refine GW_seq ?_
  refine GW_region ?_
  refine GL_rd (v := .int _ _) (wn_none rfl) rfl (rd_move rfl rfl) ?_
  refine GL_rd (v := .slice _ _ _) (wn_none rfl) rfl (rd_assign rfl rfl) ?_
  refine GL_rd (v := .int _ _) (wn_none rfl) rfl (rd_assign rfl rfl) ?_
  refine GL_nil ?_
  refine GW_ret ?_
  have hp := hp.mods.nilRow 5 1
  have e : putB r = [] := putB_no hc
  refine ⟨_, res2 Tryz.results24 (rv_tmp (v := .slice _ _ _) rfl rfl) (rv_tmp (v := .int _ _) rfl rfl), .slice none 0 0, rfl, ?_⟩
  rw [e]; exact hp
 ·(try simp only [decide_eq_true_eq, decide_eq_false_iff_not, Bool.not_eq_true', Bool.not_eq_false', Bool.not_eq_eq_eq_not, Bool.not_true, Bool.not_false, Int.not_lt, Int.not_le] at hb)
  have hc : checkR r = 0 := hb
  refine GW_skip ?_
  refine GW_seq ?_
  refine GW_region ?_
  refine GL_rd (wn_none rfl) rfl (rd_loadC rfl rfl Tryz.underlying46 rfl ts46 (hp.get 0 rfl) (recC_len _)) ?_
  refine GL_call (wn_none rfl) rfl rfl (ref_audSaid r _ hz) rfl ?_
  intro vs w hk
  have hp := hp.comp hk
  obtain ⟨As, cs, rfl⟩ := row_shape (hp.get 0 rfl)
  refine GL_rd (v := .slice _ _ _) (wn_none rfl) rfl (rd_assign rfl rfl) ?_
  refine GL_nil ?_
  refine GW_seq ?_
  refine GW_seq ?_
  refine GW_region ?_
  refine GL_rd (v := .int _ _) (wn_none rfl) rfl (rd_assign rfl rfl) ?_
  refine GL_nil ?_
  refine GW_block ?_
  refine GW_loop ?_
  refine Lp_ind (α := Nat × Nat × Option Addr × Nat × List UInt8) (fun a_0 f_0 w' => match a_0 with | (i, n, A2, c2, xs) => ∃ fz, f_0 = (upd (upd (upd fz 1 (.pointer (some ⟨g, 0, none⟩))) 5 (.slice A2 n c2)) 6 (.int .i64 (i : Int))) ∧ Hp w0 [] w' [.row 5 1 (.slice A2 n c2) n (bys xs), cells g 46 (recC r)] ∧ (i ≤ 32) ∧ (n = (saidR r).length + i) ∧ (xs = saidR r ++ (r.sum.1).take i)) (fun a_0 => match a_0 with | (i, n, A2, c2, xs) => 32 - i) ?_ (0, (saidR r).length, As, cs, saidR r) _ _ ?_
  ·rintro ⟨i, n, A2, c2, xs⟩ f wz ⟨fz, rfl, hp, hi0, hn, hx⟩ ihL0
   refine Lp_round ?_
   refine GW_seq ?_
   refine GW_seq ?_
   refine GW_region ?_
   refine GL_rd (v := .int _ _) (wn_none rfl) rfl (rd_move rfl rfl) ?_
   refine GL_rd (wn_none rfl) rfl (rd_bin rfl rfl rfl bo_lss) ?_
   refine GL_nil ?_
   refine GW_cond rfl (fun hb2 => ?_) (fun hb2 => ?_)
   ·(try simp only [decide_eq_true_eq, decide_eq_false_iff_not, Bool.not_eq_true', Bool.not_eq_false', Bool.not_eq_eq_eq_not, Bool.not_true, Bool.not_false, Int.not_lt, Int.not_le] at hb2)
    refine GW_skip ?_
    refine GW_seq ?_
    refine GW_block ?_
    refine GW_region ?_
    refine GL_rd (v := .slice _ _ _) (wn_none rfl) rfl (rd_move rfl rfl) ?_
    refine GL_rd (v := .int _ _) (wn_none rfl) rfl (rd_move rfl rfl) ?_
    refine GL_rd (wn_none rfl) rfl (rd_field rfl rfl fa46_6 _ rfl) ?_
    refine GL_rd (wn_none rfl) rfl (rd_indexA (j := i) rfl rfl rfl Tryz.underlying30 ts5 rfl (by omega) _ rfl) ?_
    refine GL_rd (wn_none rfl) rfl (rd_load rfl rfl Tryz.underlying5 rfl ((cell_of_cells (hp.get 1 rfl) _).trans (rec_byteSum r (by omega)))) ?_
    refine GL_lit (L := (bys [(r.sum.1).getD i 0])) (wn_none rfl) rfl rfl Tryz.underlying35 ts5 tz5 rfl (by kernel_rfl) rfl rfl hp ?_
    intro g2 w hp
    refine GL_append (i := 1) (wn_none rfl) rfl rfl rfl rfl Tryz.underlying35 ti5 rfl (by decide) hp rfl (Sl.row (hp.get 0 rfl)) (bys_one _) (by omega) (by omega) ?_
    intro v w hp
    obtain ⟨Av, cv, rfl⟩ := row_shape (hp.get 1 rfl)
    rw [← bys_append] at hp
    refine GL_rd (v := .slice _ _ _) (wn_none rfl) rfl (rd_assign rfl rfl) ?_
    refine GL_nil ?_
    refine GW_region ?_
    refine GL_rd (v := .int _ _) (wn_none rfl) rfl (rd_move rfl rfl) ?_
    refine GL_rd (wn_none rfl) rfl (rd_bin rfl rfl rfl (bo_add64 (by omega))) ?_
    refine GL_rd (v := .int _ _) (wn_none rfl) rfl (rd_assign rfl rfl) ?_
    refine GL_nil ?_
    have hp := (((hp.front 2 rfl).front 2 rfl).take 2)
    exact ihL0 (i + 1, _, _, _, _) _ _ (by simp only []; omega) ⟨_, slots3 rfl rfl rfl, hp, by omega, by omega, by rw [hx, List.append_assoc, List.take_succ_eq_append_getD (by rw [r.sum.2]; omega)]⟩
   ·(try simp only [decide_eq_true_eq, decide_eq_false_iff_not, Bool.not_eq_true', Bool.not_eq_false', Bool.not_eq_eq_eq_not, Bool.not_true, Bool.not_false, Int.not_lt, Int.not_le] at hb2)
    obtain rfl : i = 32 := by omega
    refine GW_exit ?_
    refine GW_seq ?_
    refine GW_region ?_
    refine GL_rd (v := .slice _ _ _) (wn_none rfl) rfl (rd_move rfl rfl) ?_
    refine GL_rd (v := .slice _ _ _) (wn_none rfl) rfl (rd_assign rfl rfl) ?_
    refine GL_rd (v := .int _ _) (wn_none rfl) rfl (rd_assign rfl rfl) ?_
    refine GL_nil ?_
    refine GW_ret ?_
    have e : xs = putB r := by rw [hx, List.take_of_length_le (by rw [r.sum.2]; omega), putB_yes hc]; rfl
    subst e
    have en := row_n (hp.get 0 rfl)
    subst en
    have hp := ((hp.front 0 rfl).take 1)
    exact ⟨_, res2 Tryz.results24 (rv_tmp (v := .slice _ _ _) rfl rfl) (rv_tmp (v := .int _ _) rfl rfl), _, by rw [hc], hp⟩
  ·have hp := (((hp.front 1 rfl).front 1 rfl).take 2)
   refine ⟨_, slots3 rfl rfl rfl, hp, Nat.zero_le _, by omega, by rw [List.take_zero, List.append_nil]⟩
set_option maxHeartbeats 1000000 in
theorem aud_Get (sv : Value) (m : Nat) (l : List UInt8) (w0 : World) (hs : Sl w0 sv 1 m (bys l)) (hm : m = 155) : Does Tryz.prog 73 #[sv] w0 fun v w' => v = .tuple #[.agg ⟨recC (getR l)⟩, .int .i64 (getE l)] ∧ Hp w0 [] w' [] := by
 obtain ⟨A, c, rfl⟩ := sl_shape hs
 have hml := hs.blen
 have hT := getL_lt ((l.drop 5).take 6)
 have hK := getL_lt ((l.drop 4).take 1)
 have h5 : ((l.drop 5).take 6).length = 6 := by rw [List.length_take, List.length_drop]; omega
 have h4 : ((l.drop 4).take 1).length = 1 := by rw [List.length_take, List.length_drop]; omega
 rw [h5, show (256 : Nat) ^ 6 = 281474976710656 from rfl] at hT
 rw [h4, show (256 : Nat) ^ 1 = 256 from rfl] at hK
 refine does_of (l := [.slice A m c]) Tryz.func73 (by kernel_rfl) rfl Tryz.ntmps73 rfl rfl (by kernel_rfl) ?_
 have hp := Hp.refl w0 []
 refine GW_seq ?_
 refine GW_region ?_
 refine GL_alloc (wn_none rfl) rfl rfl tz46 rfl hp ?_
 intro g w hp
 refine GL_rd (v := .int _ _) (wn_none rfl) rfl (rd_assign rfl rfl) ?_
 refine GL_nil ?_
 refine GW_seq ?_
 refine GW_region ?_
 refine GL_rd (v := .slice _ _ _) (wn_none rfl) rfl (rd_move rfl rfl) ?_
 refine GL_call (wn_none rfl) rfl rfl (word_From _ _ _ _) rfl ?_
 rintro _ w ⟨p, rfl, hk⟩
 have hp := hp.comp hk
 refine GL_rd (v := .pointer (some ⟨_, _, none⟩)) (wn_none rfl) rfl (rd_assign rfl rfl) ?_
 refine GL_nil ?_
 refine GW_seq ?_
 refine GW_seq ?_
 refine GW_region ?_
 refine GL_rd (v := .pointer (some ⟨_, _, none⟩)) (wn_none rfl) rfl (rd_move rfl rfl) ?_
 refine GL_call (wn_none rfl) rfl rfl (cur_Bytes p _ ((l.drop 0)) (false) 4 _ (hp.get 0 rfl) (fun w' h => ((hs.keep (hp.modAt 0 rfl h)).asLen (by simp only [List.drop_zero]; omega))) (by rw [List.length_drop]; omega)) rfl ?_
 rintro v w ⟨bv, hsuf, hk⟩
 have hp := hp.turnAtMore 0 rfl hk
 obtain ⟨Av, cv, rfl⟩ := row_shape (hp.get 0 rfl)
 have st1 : curOk false (l.drop 0) 4 = true ∧ curOut false (l.drop 0) 4 = (l.drop 0).take 4 ∧ curL false (l.drop 0) 4 = l.drop 4 := by have h := cur_step (l.drop 0) 4 (by rw [List.length_drop]; omega); rw [List.drop_drop] at h; exact h
 rw [st1.2.2] at hsuf
 rw [st1.2.1, st1.1, Bool.not_true] at hp
 rw [st1.2.1]
 refine GL_rd (wn_none rfl) rfl (rd_toStr rfl rfl Tryz.underlying35 Tryz.underlying9 Tryz.underlying5 (Sl.row (hp.get 0 rfl))) ?_
 refine GL_rd (wn_none rfl) rfl (rd_bin rfl rfl rfl bo_sneq) ?_
 refine GL_nil ?_
 refine GW_cond rfl (fun hb => ?_) (fun hb => ?_)
 ·(try simp only [decide_eq_true_eq, decide_eq_false_iff_not, Bool.not_eq_true', Bool.not_eq_false', Bool.not_eq_eq_eq_not, Bool.not_true, Bool.not_false, Int.not_lt, Int.not_le] at hb)
  have hh : ¬ l.take 4 = [65, 85, 68, 84] := fun e => hb (by rw [List.drop_zero, e])
  refine GW_seq ?_
  refine GW_region ?_
  refine GL_rd (wn_none rfl) rfl (rd_buildS (L := (recC recZ)) rfl tz46 pl46 (by kernel_rfl)) ?_
  refine GL_store (i := 2) (wn_none rfl) rfl rfl rfl rfl ts46 rfl (recC_len _) (recC_one _) hp rfl (by first | exact Nat.le_of_ble_eq_true rfl | (rw [recC_len]; decide)) (splice_all _ _ (by first | rw [recC_len, recC_len] | (rw [recC_len]; rfl))) ?_
  intro w hp
  refine GL_rd (v := .int _ _) (wn_none rfl) rfl (rd_assign rfl rfl) ?_
  refine GL_nil ?_
  refine GW_ret ?_
  have hno : grB l = false := grB_no (fun q => hh (by rw [q.1]))
  exact ⟨_, res2 Tryz.results73 (rv_cell rfl rfl Tryz.underlying46 rfl ts46 (recC_len _) (hp.get 2 rfl)) (rv_tmp (v := .int _ _) rfl rfl), by rw [(get_no hno).1, (get_no hno).2], hp.mods⟩
 ·(try simp only [decide_eq_true_eq, decide_eq_false_iff_not, Bool.not_eq_true', Bool.not_eq_false', Bool.not_eq_eq_eq_not, Bool.not_true, Bool.not_false, Int.not_lt, Int.not_le] at hb)
  have hh : l.take 4 = [65, 85, 68, 84] := by have h := hb; rw [List.drop_zero] at h; exact (str_eq _ [65, 85, 68, 84]).1 h
  refine GW_skip ?_
  refine GW_seq ?_
  rcases three_of (unpadOk (grA l)) (unpadOk (grQ l)) with ⟨hu, hq⟩ | ⟨hu, hq⟩ | hu
  ·skip
   refine GW_region ?_
   refine GL_rd (v := .pointer (some ⟨_, _, none⟩)) (wn_none rfl) rfl (rd_move rfl rfl) ?_
   refine GL_call (wn_none rfl) rfl rfl (cur_Num p _ ((l.drop 4)) (false) 1 _ (hp.get 1 rfl) (fun w' h => (hsuf w' ((hs.keep (hp.modAt 1 rfl h)).asLen (by simp only [List.drop_zero]; omega)))) (by rw [List.length_drop]; omega)) rfl ?_
   rintro _ w ⟨bv2, hsuf2, rfl, hk⟩
   have hp := hp.turnAtMore 1 rfl hk
   have st1 : curOk false (l.drop 4) 1 = true ∧ curOut false (l.drop 4) 1 = (l.drop 4).take 1 ∧ curL false (l.drop 4) 1 = l.drop 5 := by have h := cur_step (l.drop 4) 1 (by rw [List.length_drop]; omega); rw [List.drop_drop] at h; exact h
   rw [st1.2.2] at hsuf2
   rw [st1.1, Bool.not_true] at hp
   rw [show curNum false (l.drop 4) 1 = getL ((l.drop 4).take 1) from num_step (l.drop 4) 1 (by rw [List.length_drop]; omega) (by decide)]
   refine GL_rd (wn_none rfl) rfl (rd_convE (q := (getL ((l.drop 4).take 1) : Int)) rfl rfl Tryz.underlying3 Tryz.underlying62 (by simp) (IntWalk.i64_in _ (by omega))) ?_
   refine GL_rd (v := .pointer (some ⟨_, _, none⟩)) (wn_none rfl) rfl (rd_move rfl rfl) ?_
   refine GL_call (wn_none rfl) rfl rfl (cur_Num p _ ((l.drop 5)) (false) 6 _ (hp.get 0 rfl) (fun w' h => (hsuf2 w' (hsuf w' ((hs.keep (hp.modAt 0 rfl h)).asLen (by simp only [List.drop_zero]; omega))))) (by rw [List.length_drop]; omega)) rfl ?_
   rintro _ w ⟨bv3, hsuf3, rfl, hk⟩
   have hp := hp.turnAtMore 0 rfl hk
   have st1 : curOk false (l.drop 5) 6 = true ∧ curOut false (l.drop 5) 6 = (l.drop 5).take 6 ∧ curL false (l.drop 5) 6 = l.drop 11 := by have h := cur_step (l.drop 5) 6 (by rw [List.length_drop]; omega); rw [List.drop_drop] at h; exact h
   rw [st1.2.2] at hsuf3
   rw [st1.1, Bool.not_true] at hp
   rw [show curNum false (l.drop 5) 6 = getL ((l.drop 5).take 6) from num_step (l.drop 5) 6 (by rw [List.length_drop]; omega) (by decide)]
   refine GL_rd (wn_none rfl) rfl (rd_convE (q := (getL ((l.drop 5).take 6) : Int)) rfl rfl Tryz.underlying3 Tryz.underlying62 (by simp) (IntWalk.i64_in _ (by omega))) ?_
   refine GL_rd (v := .pointer (some ⟨_, _, none⟩)) (wn_none rfl) rfl (rd_move rfl rfl) ?_
   refine GL_call (wn_none rfl) rfl rfl (cur_Text p _ ((l.drop 11)) (false) 16 _ (hp.get 0 rfl) (fun w' h => (hsuf3 w' (hsuf2 w' (hsuf w' ((hs.keep (hp.modAt 0 rfl h)).asLen (by simp only [List.drop_zero]; omega)))))) (by rw [List.length_drop]; omega)) rfl ?_
   rintro _ w ⟨bv4, hsuf4, rfl, hk⟩
   have hp := hp.turnAtMore 0 rfl hk
   have st1 : curOk false (l.drop 11) 16 = true ∧ curOut false (l.drop 11) 16 = (l.drop 11).take 16 ∧ curL false (l.drop 11) 16 = l.drop 27 := by have h := cur_step (l.drop 11) 16 (by rw [List.length_drop]; omega); rw [List.drop_drop] at h; exact h
   have tb : curTextBad false (l.drop 11) 16 = false := by rw [curTextBad, st1.1, st1.2.1]; show (false || !unpadOk (grA l)) = _; rw [hu]; rfl
   rw [st1.2.2] at hsuf4
   rw [tb] at hp
   rw [show curText false (l.drop 11) 16 = unpadL (grA l) from by rw [curText, st1.2.1]; rfl]
   refine GL_rd (v := .pointer (some ⟨_, _, none⟩)) (wn_none rfl) rfl (rd_move rfl rfl) ?_
   refine GL_call (wn_none rfl) rfl rfl (cur_Text p _ ((l.drop 27)) (false) 32 _ (hp.get 0 rfl) (fun w' h => (hsuf4 w' (hsuf3 w' (hsuf2 w' (hsuf w' ((hs.keep (hp.modAt 0 rfl h)).asLen (by simp only [List.drop_zero]; omega))))))) (by rw [List.length_drop]; omega)) rfl ?_
   rintro _ w ⟨bv5, hsuf5, rfl, hk⟩
   have hp := hp.turnAtMore 0 rfl hk
   have st1 : curOk false (l.drop 27) 32 = true ∧ curOut false (l.drop 27) 32 = (l.drop 27).take 32 ∧ curL false (l.drop 27) 32 = l.drop 59 := by have h := cur_step (l.drop 27) 32 (by rw [List.length_drop]; omega); rw [List.drop_drop] at h; exact h
   have tb : curTextBad false (l.drop 27) 32 = false := by rw [curTextBad, st1.1, st1.2.1]; show (false || !unpadOk (grQ l)) = _; rw [hq]; rfl
   rw [st1.2.2] at hsuf5
   rw [tb] at hp
   rw [show curText false (l.drop 27) 32 = unpadL (grQ l) from by rw [curText, st1.2.1]; rfl]
   refine GL_rd (wn_none rfl) rfl (rd_buildF (L := (recC (⟨(getL ((l.drop 4).take 1) : Int), (getL ((l.drop 5).take 6) : Int), ⟨(unpadL (grA l)).toArray⟩, a32Z, ⟨(unpadL (grQ l)).toArray⟩, a32Z, a32Z⟩ : Rec))) rfl tz46 pl46 rfl (rec_fill _ _ _ _)) ?_
   refine GL_alloc (wn_none rfl) rfl rfl tz46 rfl hp ?_
   intro g2 w hp
   refine GL_store (i := 0) (wn_none rfl) rfl rfl rfl rfl ts46 rfl (recC_len _) (recC_one _) hp rfl (by first | exact Nat.le_of_ble_eq_true rfl | (rw [recC_len]; decide)) (splice_all _ _ (by first | rw [recC_len, recC_len] | (rw [recC_len]; rfl))) ?_
   intro w hp
   refine GL_nil ?_
   refine GW_seq ?_
   refine GW_drawnK 18 (.one 0 true (.one 4 true (.one 8 true (.one 1 false (.one 2 true (.one 3 true (.one 12 true (.one 5 false (.one 6 true (.one 7 true (.one 9 false (.one 10 true (.one 11 true (.one 13 false (.one 14 true (.one 15 false (.one 16 true (.one 17 false .nil)))))))))))))))))) mixed (by kernel_rfl) hp (fun _ h => h.mods) fun w hp => ?_
   have hpS := hp.mods
   refine GO_rdT (v := .pointer (some ⟨_, _, none⟩)) rfl (wn_none rfl) rfl (fun w => (rd_move rfl rfl)) ?_
   refine GO_rdT (v := .pointer (some ⟨_, _, none⟩)) rfl (wn_none rfl) rfl (fun w => (rd_move rfl rfl)) ?_
   refine GO_rdT (v := .pointer (some ⟨_, _, none⟩)) rfl (wn_none rfl) rfl (fun w => (rd_move rfl rfl)) ?_
   refine GO_of_GL rfl ?_
   refine GL_call (wn_none rfl) rfl rfl (cur_Bytes p _ ((l.drop 59)) (false) 32 _ (hp.get 1 rfl) (fun w' h => (hsuf5 w' (hsuf4 w' (hsuf3 w' (hsuf2 w' (hsuf w' ((hs.keep (hp.modAt 1 rfl h)).asLen (by simp only [List.drop_zero]; omega)))))))) (by rw [List.length_drop]; omega)) rfl ?_
   rintro v6 w ⟨bv6, hsuf6, hk⟩
   have hp := hp.turnAtMore 1 rfl hk
   obtain ⟨Av6, cv6, rfl⟩ := row_shape (hp.get 0 rfl)
   have st1 : curOk false (l.drop 59) 32 = true ∧ curOut false (l.drop 59) 32 = (l.drop 59).take 32 ∧ curL false (l.drop 59) 32 = l.drop 91 := by have h := cur_step (l.drop 59) 32 (by rw [List.length_drop]; omega); rw [List.drop_drop] at h; exact h
   rw [st1.2.2] at hsuf6
   rw [st1.2.1, st1.1, Bool.not_true] at hp
   rw [st1.2.1]
   have ce : (l.drop 59).take 32 = cut32 l 59 := (cut32_eq (by omega)).symm
   rw [ce] at hp
   rw [ce]
   obtain ⟨gB, bB, rfl⟩ := (Sl.row (hp.get 0 rfl)).addr (by rw [bys_length]; first | (rw [cut32_length]; decide) | (rw [List.length_replicate]; decide))
   have hpS2 := hp.mods
   refine GL_nil ⟨fun _ => hpS2, ?_⟩
   refine GO_grow hp (fun _ h => (h.sub (.cons_cons _ (.cons _ (.cons _ (.cons_cons _ (.cons _ .slnil))))))) (fun _ h => h.mods) fun hpS3 => ?_
   refine GO_rd (v := _) rfl rfl (wn_none rfl) rfl hpS3 (fun w hp => (rd_toArr rfl rfl Tryz.underlying30 (by first | (rw [cut32_length]; decide) | (rw [List.length_replicate]; decide)))) ?_
   refine GO_rd rfl rfl (wn_none rfl) rfl hpS3 (fun w hp => (rd_loadN (L := _) rfl rfl Tryz.underlying30 rfl ts30 (by rw [bys_length]; first | exact cut32_length _ _ | rfl) (fun jq u hj => (Sl.row (hp.get 0 rfl)).get jq u hj))) ?_
   refine GO_rdT rfl (wn_none rfl) rfl (fun w => (rd_field rfl rfl fa46_3 _ rfl)) ?_
   refine GO_of_GL rfl ?_
   refine GL_call (wn_none rfl) rfl rfl (cur_Bytes p _ ((l.drop 91)) (false) 32 _ (hp.get 1 rfl) (fun w' h => (hsuf6 w' (hsuf5 w' (hsuf4 w' (hsuf3 w' (hsuf2 w' (hsuf w' ((hs.keep (hp.modAt 1 rfl h)).asLen (by simp only [List.drop_zero]; omega))))))))) (by rw [List.length_drop]; omega)) rfl ?_
   rintro v7 w ⟨bv7, hsuf7, hk⟩
   have hp := hp.turnAtMore 1 rfl hk
   obtain ⟨Av7, cv7, rfl⟩ := row_shape (hp.get 0 rfl)
   have st1 : curOk false (l.drop 91) 32 = true ∧ curOut false (l.drop 91) 32 = (l.drop 91).take 32 ∧ curL false (l.drop 91) 32 = l.drop 123 := by have h := cur_step (l.drop 91) 32 (by rw [List.length_drop]; omega); rw [List.drop_drop] at h; exact h
   rw [st1.2.2] at hsuf7
   rw [st1.2.1, st1.1, Bool.not_true] at hp
   rw [st1.2.1]
   have ce : (l.drop 91).take 32 = cut32 l 91 := (cut32_eq (by omega)).symm
   rw [ce] at hp
   rw [ce]
   obtain ⟨gB, bB, rfl⟩ := (Sl.row (hp.get 0 rfl)).addr (by rw [bys_length]; first | (rw [cut32_length]; decide) | (rw [List.length_replicate]; decide))
   have hpS4 := (hp.sub (.cons _ (.cons _ (.cons_cons _ (.cons _ (.cons_cons _ (.cons _ .slnil)))))))
   refine GL_nil ⟨fun _ => hpS4, ?_⟩
   refine GO_grow hp (fun _ h => (h.sub (.cons_cons _ (.cons _ (.cons_cons _ (.cons _ (.cons_cons _ (.cons _ .slnil)))))))) (fun _ h => (h.sub (.cons _ (.cons_cons _ (.cons_cons _ .slnil))))) fun hpS5 => ?_
   refine GO_rd (v := _) rfl rfl (wn_none rfl) rfl hpS5 (fun w hp => (rd_toArr rfl rfl Tryz.underlying30 (by first | (rw [cut32_length]; decide) | (rw [List.length_replicate]; decide)))) ?_
   refine GO_rd rfl rfl (wn_none rfl) rfl hpS5 (fun w hp => (rd_loadN (L := _) rfl rfl Tryz.underlying30 rfl ts30 (by rw [bys_length]; first | exact cut32_length _ _ | rfl) (fun jq u hj => (Sl.row (hp.get 0 rfl)).get jq u hj))) ?_
   refine GO_of_GL rfl ?_
   refine GL_call (wn_none rfl) rfl rfl (cur_Bytes p _ ((l.drop 123)) (false) 32 _ (hp.get 1 rfl) (fun w' h => (hsuf7 w' (hsuf6 w' (hsuf5 w' (hsuf4 w' (hsuf3 w' (hsuf2 w' (hsuf w' ((hs.keep (hp.modAt 1 rfl h)).asLen (by simp only [List.drop_zero]; omega)))))))))) (by rw [List.length_drop]; omega)) rfl ?_
   rintro v8 w ⟨bv8, hsuf8, hk⟩
   have hp := hp.turnAtMore 1 rfl hk
   obtain ⟨Av8, cv8, rfl⟩ := row_shape (hp.get 0 rfl)
   have st1 : curOk false (l.drop 123) 32 = true ∧ curOut false (l.drop 123) 32 = (l.drop 123).take 32 ∧ curL false (l.drop 123) 32 = l.drop 155 := by have h := cur_step (l.drop 123) 32 (by rw [List.length_drop]; omega); rw [List.drop_drop] at h; exact h
   rw [st1.2.2] at hsuf8
   rw [st1.2.1, st1.1, Bool.not_true] at hp
   rw [st1.2.1]
   have ce : (l.drop 123).take 32 = cut32 l 123 := (cut32_eq (by omega)).symm
   rw [ce] at hp
   rw [ce]
   obtain ⟨gB, bB, rfl⟩ := (Sl.row (hp.get 0 rfl)).addr (by rw [bys_length]; first | (rw [cut32_length]; decide) | (rw [List.length_replicate]; decide))
   have hpS6 := (hp.sub (.cons _ (.cons _ (.cons_cons _ (.cons_cons _ (.cons _ (.cons_cons _ (.cons _ .slnil))))))))
   refine GL_nil ⟨fun _ => hpS6, ?_⟩
   refine GO_grow hp (fun _ h => (h.sub (.cons_cons _ (.cons _ (.cons_cons _ (.cons_cons _ (.cons _ (.cons_cons _ (.cons _ .slnil))))))))) (fun _ h => (h.sub (.cons _ (.cons_cons _ (.cons_cons _ (.cons_cons _ .slnil)))))) fun hpS7 => ?_
   refine GO_rd (v := _) rfl rfl (wn_none rfl) rfl hpS7 (fun w hp => (rd_toArr rfl rfl Tryz.underlying30 (by first | (rw [cut32_length]; decide) | (rw [List.length_replicate]; decide)))) ?_
   refine GO_rd rfl rfl (wn_none rfl) rfl hpS7 (fun w hp => (rd_loadN (L := _) rfl rfl Tryz.underlying30 rfl ts30 (by rw [bys_length]; first | exact cut32_length _ _ | rfl) (fun jq u hj => (Sl.row (hp.get 0 rfl)).get jq u hj))) ?_
   refine GO_of_GL rfl ?_
   refine GL_store (i := 4) (wn_none rfl) rfl rfl rfl rfl ts30 rfl (by rw [bys_length]; first | exact cut32_length _ _ | rfl) (bys_one _) hp rfl (by rw [recC_len]; decide) (rec_setClip _ (⟨cut32 l 59, cut32_length _ _⟩ : A32)) ?_
   intro w hp
   have hpS8 := (hp.sub (.cons_cons _ (.cons _ (.cons_cons _ (.cons_cons _ (.cons _ (.cons_cons _ (.cons _ .slnil))))))))
   refine GL_nil ⟨fun _ => hpS8, ?_⟩
   refine GO_rdT rfl (wn_none rfl) rfl (fun w => (rd_field rfl rfl fa46_5 _ rfl)) ?_
   refine GO_of_GL rfl ?_
   refine GL_store (i := 4) (wn_none rfl) rfl rfl rfl rfl ts30 rfl (by rw [bys_length]; first | exact cut32_length _ _ | rfl) (bys_one _) hp rfl (by rw [recC_len]; decide) (rec_setPrev _ (⟨cut32 l 91, cut32_length _ _⟩ : A32)) ?_
   intro w hp
   have hpS9 := (hp.sub (.cons_cons _ (.cons _ (.cons_cons _ (.cons_cons _ (.cons _ (.cons_cons _ (.cons _ .slnil))))))))
   refine GL_nil ⟨fun _ => hpS9, ?_⟩
   refine GO_rdT rfl (wn_none rfl) rfl (fun w => (rd_field rfl rfl fa46_6 _ rfl)) ?_
   refine GO_of_GL rfl ?_
   refine GL_store (i := 4) (wn_none rfl) rfl rfl rfl rfl ts30 rfl (by rw [bys_length]; first | exact cut32_length _ _ | rfl) (bys_one _) hp rfl (by rw [recC_len]; decide) (rec_setSum _ (⟨cut32 l 123, cut32_length _ _⟩ : A32)) ?_
   intro w hp
   have hpS10 := (hp.sub (.cons_cons _ (.cons _ (.cons_cons _ (.cons_cons _ (.cons _ (.cons_cons _ (.cons _ .slnil))))))))
   refine GL_nil ⟨fun _ => hpS10, ?_⟩
   refine GO_nil ?_
   refine GW_seq ?_
   refine GW_seq ?_
   refine GW_region ?_
   refine GL_rd (v := .slice _ _ _) (wn_none rfl) rfl (rd_move rfl rfl) ?_
   refine GL_rd (wn_none rfl) rfl (rd_len rfl rfl Tryz.underlying35) ?_
   refine GL_rd (wn_none rfl) rfl (rd_bin rfl rfl rfl bo_neq) ?_
   refine GL_rd (v := .bool _) (wn_none rfl) rfl (rd_move rfl rfl) ?_
   refine GL_split (t := 42) (b := _) rfl ?_ ?_
   ·intro hb2; (try simp only [decide_eq_true_eq, decide_eq_false_iff_not, Bool.not_eq_true', Bool.not_eq_false', Bool.not_eq_eq_eq_not, Bool.not_true, Bool.not_false, Int.not_lt, Int.not_le] at hb2)
    exact absurd hb2 (by omega)
   ·intro hb2; (try simp only [decide_eq_true_eq, decide_eq_false_iff_not, Bool.not_eq_true', Bool.not_eq_false', Bool.not_eq_eq_eq_not, Bool.not_true, Bool.not_false, Int.not_lt, Int.not_le] at hb2)
    refine GL_rd (v := .pointer (some ⟨_, _, none⟩)) (wn_on rfl rfl rfl rfl) rfl (rd_move rfl rfl) ?_
    refine GL_call (wn_on rfl rfl rfl rfl) rfl rfl (cur_Right p _ ((l.drop 155)) (false) _ (hp.get 1 rfl) (fun w' h => (hsuf8 w' (hsuf7 w' (hsuf6 w' (hsuf5 w' (hsuf4 w' (hsuf3 w' (hsuf2 w' (hsuf w' ((hs.keep (hp.modAt 1 rfl h)).asLen (by simp only [List.drop_zero]; omega)))))))))))) rfl ?_
    rintro _ w ⟨rfl, hk⟩
    have hp := hp.comp hk
    refine GL_rd (wn_on rfl rfl rfl rfl) rfl (rd_not rfl rfl) ?_
    refine GL_rd (v := .bool _) (wn_none rfl) rfl (rd_pickF rfl rfl rfl) ?_
    refine GL_rd (v := .bool _) (wn_none rfl) rfl (rd_move rfl rfl) ?_
    refine GL_split (t := 47) (b := _) rfl ?_ ?_
    ·intro hb3; (try simp only [decide_eq_true_eq, decide_eq_false_iff_not, Bool.not_eq_true', Bool.not_eq_false', Bool.not_eq_eq_eq_not, Bool.not_true, Bool.not_false, Int.not_lt, Int.not_le] at hb3)
     cases hb3
    ·intro hb3; (try simp only [decide_eq_true_eq, decide_eq_false_iff_not, Bool.not_eq_true', Bool.not_eq_false', Bool.not_eq_eq_eq_not, Bool.not_true, Bool.not_false, Int.not_lt, Int.not_le] at hb3)
     refine GL_rd (wn_on rfl rfl rfl rfl) rfl (rd_loadC rfl rfl Tryz.underlying46 rfl ts46 (hp.get 4 rfl) (recC_len _)) ?_
     refine GL_call (wn_on rfl rfl rfl rfl) rfl rfl (aud_Check (gr l) _ ⟨by have h1 := unpadL_le (b := grA l); have h2 : (grA l).length ≤ 16 := List.length_take_le _ _; show (unpadL (grA l)).length ≤ _; omega, by have h1 := unpadL_le (b := grQ l); have h2 : (grQ l).length ≤ 32 := List.length_take_le _ _; show (unpadL (grQ l)).length ≤ _; omega⟩) rfl ?_
     rintro _ w ⟨rfl, hk⟩
     have hp := hp.comp hk
     refine GL_rd (wn_on rfl rfl rfl rfl) rfl (rd_bin rfl rfl rfl bo_neq) ?_
     refine GL_rd (v := .bool _) (wn_none rfl) rfl (rd_pickF rfl rfl rfl) ?_
     refine GL_nil ?_
     refine GW_cond rfl (fun hb4 => ?_) (fun hb4 => ?_)
     ·(try simp only [decide_eq_true_eq, decide_eq_false_iff_not, Bool.not_eq_true', Bool.not_eq_false', Bool.not_eq_eq_eq_not, Bool.not_true, Bool.not_false, Int.not_lt, Int.not_le] at hb4)
      have hck : ¬ checkR (gr l) = 0 := hb4
      refine GW_seq ?_
      refine GW_region ?_
      refine GL_rd (wn_none rfl) rfl (rd_buildS (L := (recC recZ)) rfl tz46 pl46 (by kernel_rfl)) ?_
      refine GL_store (i := 6) (wn_none rfl) rfl rfl rfl rfl ts46 rfl (recC_len _) (recC_one _) hp rfl (by first | exact Nat.le_of_ble_eq_true rfl | (rw [recC_len]; decide)) (splice_all _ _ (by first | rw [recC_len, recC_len] | (rw [recC_len]; rfl))) ?_
      intro w hp
      refine GL_rd (v := .int _ _) (wn_none rfl) rfl (rd_assign rfl rfl) ?_
      refine GL_nil ?_
      refine GW_ret ?_
      have hno : grB l = false := grB_no (fun q => by first | exact absurd (hu.symm.trans q.2.1) (by decide) | exact absurd (hq.symm.trans q.2.2.1) (by decide) | exact hck q.2.2.2)
      exact ⟨_, res2 Tryz.results73 (rv_cell rfl rfl Tryz.underlying46 rfl ts46 (recC_len _) (hp.get 6 rfl)) (rv_tmp (v := .int _ _) rfl rfl), by rw [(get_no hno).1, (get_no hno).2], hp.mods⟩
     ·(try simp only [decide_eq_true_eq, decide_eq_false_iff_not, Bool.not_eq_true', Bool.not_eq_false', Bool.not_eq_eq_eq_not, Bool.not_true, Bool.not_false, Int.not_lt, Int.not_le] at hb4)
      have hck : checkR (gr l) = 0 := hb4
      refine GW_skip ?_
      refine GW_seq ?_
      refine GW_region ?_
      refine GL_rd (wn_none rfl) rfl (rd_loadC rfl rfl Tryz.underlying46 rfl ts46 (hp.get 4 rfl) (recC_len _)) ?_
      refine GL_store (i := 6) (wn_none rfl) rfl rfl rfl rfl ts46 rfl (recC_len _) (recC_one _) hp rfl (by first | exact Nat.le_of_ble_eq_true rfl | (rw [recC_len]; decide)) (splice_all _ _ (by first | rw [recC_len, recC_len] | (rw [recC_len]; rfl))) ?_
      intro w hp
      refine GL_rd (v := .int _ _) (wn_none rfl) rfl (rd_assign rfl rfl) ?_
      refine GL_nil ?_
      refine GW_ret ?_
      have hy : grB l = true := grB_iff.2 ⟨hh, hu, hq, hck⟩
      exact ⟨_, res2 Tryz.results73 (rv_cell rfl rfl Tryz.underlying46 rfl ts46 (recC_len _) (hp.get 6 rfl)) (rv_tmp (v := .int _ _) rfl rfl), by rw [(get_yes hy).1, (get_yes hy).2]; rfl, hp.mods⟩
  ·skip
   refine GW_region ?_
   refine GL_rd (v := .pointer (some ⟨_, _, none⟩)) (wn_none rfl) rfl (rd_move rfl rfl) ?_
   refine GL_call (wn_none rfl) rfl rfl (cur_Num p _ ((l.drop 4)) (false) 1 _ (hp.get 1 rfl) (fun w' h => (hsuf w' ((hs.keep (hp.modAt 1 rfl h)).asLen (by simp only [List.drop_zero]; omega)))) (by rw [List.length_drop]; omega)) rfl ?_
   rintro _ w ⟨bv9, hsuf9, rfl, hk⟩
   have hp := hp.turnAtMore 1 rfl hk
   have st1 : curOk false (l.drop 4) 1 = true ∧ curOut false (l.drop 4) 1 = (l.drop 4).take 1 ∧ curL false (l.drop 4) 1 = l.drop 5 := by have h := cur_step (l.drop 4) 1 (by rw [List.length_drop]; omega); rw [List.drop_drop] at h; exact h
   rw [st1.2.2] at hsuf9
   rw [st1.1, Bool.not_true] at hp
   rw [show curNum false (l.drop 4) 1 = getL ((l.drop 4).take 1) from num_step (l.drop 4) 1 (by rw [List.length_drop]; omega) (by decide)]
   refine GL_rd (wn_none rfl) rfl (rd_convE (q := (getL ((l.drop 4).take 1) : Int)) rfl rfl Tryz.underlying3 Tryz.underlying62 (by simp) (IntWalk.i64_in _ (by omega))) ?_
   refine GL_rd (v := .pointer (some ⟨_, _, none⟩)) (wn_none rfl) rfl (rd_move rfl rfl) ?_
   refine GL_call (wn_none rfl) rfl rfl (cur_Num p _ ((l.drop 5)) (false) 6 _ (hp.get 0 rfl) (fun w' h => (hsuf9 w' (hsuf w' ((hs.keep (hp.modAt 0 rfl h)).asLen (by simp only [List.drop_zero]; omega))))) (by rw [List.length_drop]; omega)) rfl ?_
   rintro _ w ⟨bv10, hsuf10, rfl, hk⟩
   have hp := hp.turnAtMore 0 rfl hk
   have st1 : curOk false (l.drop 5) 6 = true ∧ curOut false (l.drop 5) 6 = (l.drop 5).take 6 ∧ curL false (l.drop 5) 6 = l.drop 11 := by have h := cur_step (l.drop 5) 6 (by rw [List.length_drop]; omega); rw [List.drop_drop] at h; exact h
   rw [st1.2.2] at hsuf10
   rw [st1.1, Bool.not_true] at hp
   rw [show curNum false (l.drop 5) 6 = getL ((l.drop 5).take 6) from num_step (l.drop 5) 6 (by rw [List.length_drop]; omega) (by decide)]
   refine GL_rd (wn_none rfl) rfl (rd_convE (q := (getL ((l.drop 5).take 6) : Int)) rfl rfl Tryz.underlying3 Tryz.underlying62 (by simp) (IntWalk.i64_in _ (by omega))) ?_
   refine GL_rd (v := .pointer (some ⟨_, _, none⟩)) (wn_none rfl) rfl (rd_move rfl rfl) ?_
   refine GL_call (wn_none rfl) rfl rfl (cur_Text p _ ((l.drop 11)) (false) 16 _ (hp.get 0 rfl) (fun w' h => (hsuf10 w' (hsuf9 w' (hsuf w' ((hs.keep (hp.modAt 0 rfl h)).asLen (by simp only [List.drop_zero]; omega)))))) (by rw [List.length_drop]; omega)) rfl ?_
   rintro _ w ⟨bv11, hsuf11, rfl, hk⟩
   have hp := hp.turnAtMore 0 rfl hk
   have st1 : curOk false (l.drop 11) 16 = true ∧ curOut false (l.drop 11) 16 = (l.drop 11).take 16 ∧ curL false (l.drop 11) 16 = l.drop 27 := by have h := cur_step (l.drop 11) 16 (by rw [List.length_drop]; omega); rw [List.drop_drop] at h; exact h
   have tb : curTextBad false (l.drop 11) 16 = false := by rw [curTextBad, st1.1, st1.2.1]; show (false || !unpadOk (grA l)) = _; rw [hu]; rfl
   rw [st1.2.2] at hsuf11
   rw [tb] at hp
   rw [show curText false (l.drop 11) 16 = unpadL (grA l) from by rw [curText, st1.2.1]; rfl]
   refine GL_rd (v := .pointer (some ⟨_, _, none⟩)) (wn_none rfl) rfl (rd_move rfl rfl) ?_
   refine GL_call (wn_none rfl) rfl rfl (cur_Text p _ ((l.drop 27)) (false) 32 _ (hp.get 0 rfl) (fun w' h => (hsuf11 w' (hsuf10 w' (hsuf9 w' (hsuf w' ((hs.keep (hp.modAt 0 rfl h)).asLen (by simp only [List.drop_zero]; omega))))))) (by rw [List.length_drop]; omega)) rfl ?_
   rintro _ w ⟨bv12, hsuf12, rfl, hk⟩
   have hp := hp.turnAtMore 0 rfl hk
   have st1 : curOk false (l.drop 27) 32 = true ∧ curOut false (l.drop 27) 32 = (l.drop 27).take 32 ∧ curL false (l.drop 27) 32 = l.drop 59 := by have h := cur_step (l.drop 27) 32 (by rw [List.length_drop]; omega); rw [List.drop_drop] at h; exact h
   have tb : curTextBad false (l.drop 27) 32 = true := by rw [curTextBad, st1.1, st1.2.1]; show (false || !unpadOk (grQ l)) = _; rw [hq]; rfl
   rw [st1.2.2] at hsuf12
   rw [tb] at hp
   rw [show curText false (l.drop 27) 32 = unpadL (grQ l) from by rw [curText, st1.2.1]; rfl]
   refine GL_rd (wn_none rfl) rfl (rd_buildF (L := (recC (⟨(getL ((l.drop 4).take 1) : Int), (getL ((l.drop 5).take 6) : Int), ⟨(unpadL (grA l)).toArray⟩, a32Z, ⟨(unpadL (grQ l)).toArray⟩, a32Z, a32Z⟩ : Rec))) rfl tz46 pl46 rfl (rec_fill _ _ _ _)) ?_
   refine GL_alloc (wn_none rfl) rfl rfl tz46 rfl hp ?_
   intro g3 w hp
   refine GL_store (i := 0) (wn_none rfl) rfl rfl rfl rfl ts46 rfl (recC_len _) (recC_one _) hp rfl (by first | exact Nat.le_of_ble_eq_true rfl | (rw [recC_len]; decide)) (splice_all _ _ (by first | rw [recC_len, recC_len] | (rw [recC_len]; rfl))) ?_
   intro w hp
   refine GL_nil ?_
   refine GW_seq ?_
   refine GW_drawnK 18 (.one 0 true (.one 4 true (.one 8 true (.one 1 false (.one 2 true (.one 3 true (.one 12 true (.one 5 false (.one 6 true (.one 7 true (.one 9 false (.one 10 true (.one 11 true (.one 13 false (.one 14 true (.one 15 false (.one 16 true (.one 17 false .nil)))))))))))))))))) mixed (by kernel_rfl) hp (fun _ h => h.mods) fun w hp => ?_
   have hpS11 := hp.mods
   refine GO_rdT (v := .pointer (some ⟨_, _, none⟩)) rfl (wn_none rfl) rfl (fun w => (rd_move rfl rfl)) ?_
   refine GO_rdT (v := .pointer (some ⟨_, _, none⟩)) rfl (wn_none rfl) rfl (fun w => (rd_move rfl rfl)) ?_
   refine GO_rdT (v := .pointer (some ⟨_, _, none⟩)) rfl (wn_none rfl) rfl (fun w => (rd_move rfl rfl)) ?_
   refine GO_of_GL rfl ?_
   refine GL_call (wn_none rfl) rfl rfl (cur_Bytes p _ ((l.drop 59)) (true) 32 _ (hp.get 1 rfl) (fun w' h => (hsuf12 w' (hsuf11 w' (hsuf10 w' (hsuf9 w' (hsuf w' ((hs.keep (hp.modAt 1 rfl h)).asLen (by simp only [List.drop_zero]; omega)))))))) (by rw [List.length_drop]; omega)) rfl ?_
   rintro v13 w ⟨bv13, hsuf13, hk⟩
   have hp := hp.turnAtMore 1 rfl hk
   obtain ⟨Av13, cv13, rfl⟩ := row_shape (hp.get 0 rfl)
   rw [cur_badL] at hsuf13
   rw [cur_badO, cur_badK, Bool.not_false] at hp
   rw [cur_badO]
   obtain ⟨gB, bB, rfl⟩ := (Sl.row (hp.get 0 rfl)).addr (by rw [bys_length]; first | (rw [cut32_length]; decide) | (rw [List.length_replicate]; decide))
   have hpS12 := hp.mods
   refine GL_nil ⟨fun _ => hpS12, ?_⟩
   refine GO_grow hp (fun _ h => (h.sub (.cons_cons _ (.cons _ (.cons _ (.cons_cons _ (.cons _ .slnil))))))) (fun _ h => h.mods) fun hpS13 => ?_
   refine GO_rd (v := _) rfl rfl (wn_none rfl) rfl hpS13 (fun w hp => (rd_toArr rfl rfl Tryz.underlying30 (by first | (rw [cut32_length]; decide) | (rw [List.length_replicate]; decide)))) ?_
   refine GO_rd rfl rfl (wn_none rfl) rfl hpS13 (fun w hp => (rd_loadN (L := _) rfl rfl Tryz.underlying30 rfl ts30 (by rw [bys_length]; first | exact cut32_length _ _ | rfl) (fun jq u hj => (Sl.row (hp.get 0 rfl)).get jq u hj))) ?_
   refine GO_rdT rfl (wn_none rfl) rfl (fun w => (rd_field rfl rfl fa46_3 _ rfl)) ?_
   refine GO_of_GL rfl ?_
   refine GL_call (wn_none rfl) rfl rfl (cur_Bytes p _ ((l.drop 59)) (true) 32 _ (hp.get 1 rfl) (fun w' h => (hsuf13 w' (hsuf12 w' (hsuf11 w' (hsuf10 w' (hsuf9 w' (hsuf w' ((hs.keep (hp.modAt 1 rfl h)).asLen (by simp only [List.drop_zero]; omega))))))))) (by rw [List.length_drop]; omega)) rfl ?_
   rintro v14 w ⟨bv14, hsuf14, hk⟩
   have hp := hp.turnAtMore 1 rfl hk
   obtain ⟨Av14, cv14, rfl⟩ := row_shape (hp.get 0 rfl)
   rw [cur_badL] at hsuf14
   rw [cur_badO, cur_badK, Bool.not_false] at hp
   rw [cur_badO]
   obtain ⟨gB, bB, rfl⟩ := (Sl.row (hp.get 0 rfl)).addr (by rw [bys_length]; first | (rw [cut32_length]; decide) | (rw [List.length_replicate]; decide))
   have hpS14 := (hp.sub (.cons _ (.cons _ (.cons_cons _ (.cons _ (.cons_cons _ (.cons _ .slnil)))))))
   refine GL_nil ⟨fun _ => hpS14, ?_⟩
   refine GO_grow hp (fun _ h => (h.sub (.cons_cons _ (.cons _ (.cons_cons _ (.cons _ (.cons_cons _ (.cons _ .slnil)))))))) (fun _ h => (h.sub (.cons _ (.cons_cons _ (.cons_cons _ .slnil))))) fun hpS15 => ?_
   refine GO_rd (v := _) rfl rfl (wn_none rfl) rfl hpS15 (fun w hp => (rd_toArr rfl rfl Tryz.underlying30 (by first | (rw [cut32_length]; decide) | (rw [List.length_replicate]; decide)))) ?_
   refine GO_rd rfl rfl (wn_none rfl) rfl hpS15 (fun w hp => (rd_loadN (L := _) rfl rfl Tryz.underlying30 rfl ts30 (by rw [bys_length]; first | exact cut32_length _ _ | rfl) (fun jq u hj => (Sl.row (hp.get 0 rfl)).get jq u hj))) ?_
   refine GO_of_GL rfl ?_
   refine GL_call (wn_none rfl) rfl rfl (cur_Bytes p _ ((l.drop 59)) (true) 32 _ (hp.get 1 rfl) (fun w' h => (hsuf14 w' (hsuf13 w' (hsuf12 w' (hsuf11 w' (hsuf10 w' (hsuf9 w' (hsuf w' ((hs.keep (hp.modAt 1 rfl h)).asLen (by simp only [List.drop_zero]; omega)))))))))) (by rw [List.length_drop]; omega)) rfl ?_
   rintro v15 w ⟨bv15, hsuf15, hk⟩
   have hp := hp.turnAtMore 1 rfl hk
   obtain ⟨Av15, cv15, rfl⟩ := row_shape (hp.get 0 rfl)
   rw [cur_badL] at hsuf15
   rw [cur_badO, cur_badK, Bool.not_false] at hp
   rw [cur_badO]
   obtain ⟨gB, bB, rfl⟩ := (Sl.row (hp.get 0 rfl)).addr (by rw [bys_length]; first | (rw [cut32_length]; decide) | (rw [List.length_replicate]; decide))
   have hpS16 := (hp.sub (.cons _ (.cons _ (.cons_cons _ (.cons_cons _ (.cons _ (.cons_cons _ (.cons _ .slnil))))))))
   refine GL_nil ⟨fun _ => hpS16, ?_⟩
   refine GO_grow hp (fun _ h => (h.sub (.cons_cons _ (.cons _ (.cons_cons _ (.cons_cons _ (.cons _ (.cons_cons _ (.cons _ .slnil))))))))) (fun _ h => (h.sub (.cons _ (.cons_cons _ (.cons_cons _ (.cons_cons _ .slnil)))))) fun hpS17 => ?_
   refine GO_rd (v := _) rfl rfl (wn_none rfl) rfl hpS17 (fun w hp => (rd_toArr rfl rfl Tryz.underlying30 (by first | (rw [cut32_length]; decide) | (rw [List.length_replicate]; decide)))) ?_
   refine GO_rd rfl rfl (wn_none rfl) rfl hpS17 (fun w hp => (rd_loadN (L := _) rfl rfl Tryz.underlying30 rfl ts30 (by rw [bys_length]; first | exact cut32_length _ _ | rfl) (fun jq u hj => (Sl.row (hp.get 0 rfl)).get jq u hj))) ?_
   refine GO_of_GL rfl ?_
   refine GL_store (i := 4) (wn_none rfl) rfl rfl rfl rfl ts30 rfl (by rw [bys_length]; first | exact cut32_length _ _ | rfl) (bys_one _) hp rfl (by rw [recC_len]; decide) (rec_setClip _ a32Z) ?_
   intro w hp
   have hpS18 := (hp.sub (.cons_cons _ (.cons _ (.cons_cons _ (.cons_cons _ (.cons _ (.cons_cons _ (.cons _ .slnil))))))))
   refine GL_nil ⟨fun _ => hpS18, ?_⟩
   refine GO_rdT rfl (wn_none rfl) rfl (fun w => (rd_field rfl rfl fa46_5 _ rfl)) ?_
   refine GO_of_GL rfl ?_
   refine GL_store (i := 4) (wn_none rfl) rfl rfl rfl rfl ts30 rfl (by rw [bys_length]; first | exact cut32_length _ _ | rfl) (bys_one _) hp rfl (by rw [recC_len]; decide) (rec_setPrev _ a32Z) ?_
   intro w hp
   have hpS19 := (hp.sub (.cons_cons _ (.cons _ (.cons_cons _ (.cons_cons _ (.cons _ (.cons_cons _ (.cons _ .slnil))))))))
   refine GL_nil ⟨fun _ => hpS19, ?_⟩
   refine GO_rdT rfl (wn_none rfl) rfl (fun w => (rd_field rfl rfl fa46_6 _ rfl)) ?_
   refine GO_of_GL rfl ?_
   refine GL_store (i := 4) (wn_none rfl) rfl rfl rfl rfl ts30 rfl (by rw [bys_length]; first | exact cut32_length _ _ | rfl) (bys_one _) hp rfl (by rw [recC_len]; decide) (rec_setSum _ a32Z) ?_
   intro w hp
   have hpS20 := (hp.sub (.cons_cons _ (.cons _ (.cons_cons _ (.cons_cons _ (.cons _ (.cons_cons _ (.cons _ .slnil))))))))
   refine GL_nil ⟨fun _ => hpS20, ?_⟩
   refine GO_nil ?_
   refine GW_seq ?_
   refine GW_seq ?_
   refine GW_region ?_
   refine GL_rd (v := .slice _ _ _) (wn_none rfl) rfl (rd_move rfl rfl) ?_
   refine GL_rd (wn_none rfl) rfl (rd_len rfl rfl Tryz.underlying35) ?_
   refine GL_rd (wn_none rfl) rfl (rd_bin rfl rfl rfl bo_neq) ?_
   refine GL_rd (v := .bool _) (wn_none rfl) rfl (rd_move rfl rfl) ?_
   refine GL_split (t := 42) (b := _) rfl ?_ ?_
   ·intro hb5; (try simp only [decide_eq_true_eq, decide_eq_false_iff_not, Bool.not_eq_true', Bool.not_eq_false', Bool.not_eq_eq_eq_not, Bool.not_true, Bool.not_false, Int.not_lt, Int.not_le] at hb5)
    exact absurd hb5 (by omega)
   ·intro hb5; (try simp only [decide_eq_true_eq, decide_eq_false_iff_not, Bool.not_eq_true', Bool.not_eq_false', Bool.not_eq_eq_eq_not, Bool.not_true, Bool.not_false, Int.not_lt, Int.not_le] at hb5)
    refine GL_rd (v := .pointer (some ⟨_, _, none⟩)) (wn_on rfl rfl rfl rfl) rfl (rd_move rfl rfl) ?_
    refine GL_call (wn_on rfl rfl rfl rfl) rfl rfl (cur_Right p _ ((l.drop 59)) (true) _ (hp.get 1 rfl) (fun w' h => (hsuf15 w' (hsuf14 w' (hsuf13 w' (hsuf12 w' (hsuf11 w' (hsuf10 w' (hsuf9 w' (hsuf w' ((hs.keep (hp.modAt 1 rfl h)).asLen (by simp only [List.drop_zero]; omega)))))))))))) rfl ?_
    rintro _ w ⟨rfl, hk⟩
    have hp := hp.comp hk
    refine GL_rd (wn_on rfl rfl rfl rfl) rfl (rd_not rfl rfl) ?_
    refine GL_rd (v := .bool _) (wn_none rfl) rfl (rd_pickF rfl rfl rfl) ?_
    refine GL_rd (v := .bool _) (wn_none rfl) rfl (rd_move rfl rfl) ?_
    refine GL_split (t := 47) (b := _) rfl ?_ ?_
    ·intro hb6; (try simp only [decide_eq_true_eq, decide_eq_false_iff_not, Bool.not_eq_true', Bool.not_eq_false', Bool.not_eq_eq_eq_not, Bool.not_true, Bool.not_false, Int.not_lt, Int.not_le] at hb6)
     refine GL_pass (nw_off rfl rfl rfl rfl rfl) rfl ?_
     refine GL_pass (nw_off rfl rfl rfl rfl rfl) rfl ?_
     refine GL_pass (nw_off rfl rfl rfl rfl rfl) rfl ?_
     refine GL_rd (v := .bool _) (wn_none rfl) rfl (rd_pickT rfl rfl rfl) ?_
     refine GL_nil ?_
     refine GW_true rfl ?_
     refine GW_seq ?_
     refine GW_region ?_
     refine GL_rd (wn_none rfl) rfl (rd_buildS (L := (recC recZ)) rfl tz46 pl46 (by kernel_rfl)) ?_
     refine GL_store (i := 6) (wn_none rfl) rfl rfl rfl rfl ts46 rfl (recC_len _) (recC_one _) hp rfl (by first | exact Nat.le_of_ble_eq_true rfl | (rw [recC_len]; decide)) (splice_all _ _ (by first | rw [recC_len, recC_len] | (rw [recC_len]; rfl))) ?_
     intro w hp
     refine GL_rd (v := .int _ _) (wn_none rfl) rfl (rd_assign rfl rfl) ?_
     refine GL_nil ?_
     refine GW_ret ?_
     have hno : grB l = false := grB_no (fun q => by first | exact absurd (hu.symm.trans q.2.1) (by decide) | exact absurd (hq.symm.trans q.2.2.1) (by decide) | exact hck q.2.2.2)
     exact ⟨_, res2 Tryz.results73 (rv_cell rfl rfl Tryz.underlying46 rfl ts46 (recC_len _) (hp.get 6 rfl)) (rv_tmp (v := .int _ _) rfl rfl), by rw [(get_no hno).1, (get_no hno).2], hp.mods⟩
    ·intro hb6; (try simp only [decide_eq_true_eq, decide_eq_false_iff_not, Bool.not_eq_true', Bool.not_eq_false', Bool.not_eq_eq_eq_not, Bool.not_true, Bool.not_false, Int.not_lt, Int.not_le] at hb6)
     cases hb6
  ·skip
   refine GW_region ?_
   refine GL_rd (v := .pointer (some ⟨_, _, none⟩)) (wn_none rfl) rfl (rd_move rfl rfl) ?_
   refine GL_call (wn_none rfl) rfl rfl (cur_Num p _ ((l.drop 4)) (false) 1 _ (hp.get 1 rfl) (fun w' h => (hsuf w' ((hs.keep (hp.modAt 1 rfl h)).asLen (by simp only [List.drop_zero]; omega)))) (by rw [List.length_drop]; omega)) rfl ?_
   rintro _ w ⟨bv16, hsuf16, rfl, hk⟩
   have hp := hp.turnAtMore 1 rfl hk
   have st1 : curOk false (l.drop 4) 1 = true ∧ curOut false (l.drop 4) 1 = (l.drop 4).take 1 ∧ curL false (l.drop 4) 1 = l.drop 5 := by have h := cur_step (l.drop 4) 1 (by rw [List.length_drop]; omega); rw [List.drop_drop] at h; exact h
   rw [st1.2.2] at hsuf16
   rw [st1.1, Bool.not_true] at hp
   rw [show curNum false (l.drop 4) 1 = getL ((l.drop 4).take 1) from num_step (l.drop 4) 1 (by rw [List.length_drop]; omega) (by decide)]
   refine GL_rd (wn_none rfl) rfl (rd_convE (q := (getL ((l.drop 4).take 1) : Int)) rfl rfl Tryz.underlying3 Tryz.underlying62 (by simp) (IntWalk.i64_in _ (by omega))) ?_
   refine GL_rd (v := .pointer (some ⟨_, _, none⟩)) (wn_none rfl) rfl (rd_move rfl rfl) ?_
   refine GL_call (wn_none rfl) rfl rfl (cur_Num p _ ((l.drop 5)) (false) 6 _ (hp.get 0 rfl) (fun w' h => (hsuf16 w' (hsuf w' ((hs.keep (hp.modAt 0 rfl h)).asLen (by simp only [List.drop_zero]; omega))))) (by rw [List.length_drop]; omega)) rfl ?_
   rintro _ w ⟨bv17, hsuf17, rfl, hk⟩
   have hp := hp.turnAtMore 0 rfl hk
   have st1 : curOk false (l.drop 5) 6 = true ∧ curOut false (l.drop 5) 6 = (l.drop 5).take 6 ∧ curL false (l.drop 5) 6 = l.drop 11 := by have h := cur_step (l.drop 5) 6 (by rw [List.length_drop]; omega); rw [List.drop_drop] at h; exact h
   rw [st1.2.2] at hsuf17
   rw [st1.1, Bool.not_true] at hp
   rw [show curNum false (l.drop 5) 6 = getL ((l.drop 5).take 6) from num_step (l.drop 5) 6 (by rw [List.length_drop]; omega) (by decide)]
   refine GL_rd (wn_none rfl) rfl (rd_convE (q := (getL ((l.drop 5).take 6) : Int)) rfl rfl Tryz.underlying3 Tryz.underlying62 (by simp) (IntWalk.i64_in _ (by omega))) ?_
   refine GL_rd (v := .pointer (some ⟨_, _, none⟩)) (wn_none rfl) rfl (rd_move rfl rfl) ?_
   refine GL_call (wn_none rfl) rfl rfl (cur_Text p _ ((l.drop 11)) (false) 16 _ (hp.get 0 rfl) (fun w' h => (hsuf17 w' (hsuf16 w' (hsuf w' ((hs.keep (hp.modAt 0 rfl h)).asLen (by simp only [List.drop_zero]; omega)))))) (by rw [List.length_drop]; omega)) rfl ?_
   rintro _ w ⟨bv18, hsuf18, rfl, hk⟩
   have hp := hp.turnAtMore 0 rfl hk
   have st1 : curOk false (l.drop 11) 16 = true ∧ curOut false (l.drop 11) 16 = (l.drop 11).take 16 ∧ curL false (l.drop 11) 16 = l.drop 27 := by have h := cur_step (l.drop 11) 16 (by rw [List.length_drop]; omega); rw [List.drop_drop] at h; exact h
   have tb : curTextBad false (l.drop 11) 16 = true := by rw [curTextBad, st1.1, st1.2.1]; show (false || !unpadOk (grA l)) = _; rw [hu]; rfl
   rw [st1.2.2] at hsuf18
   rw [tb] at hp
   rw [show curText false (l.drop 11) 16 = unpadL (grA l) from by rw [curText, st1.2.1]; rfl]
   refine GL_rd (v := .pointer (some ⟨_, _, none⟩)) (wn_none rfl) rfl (rd_move rfl rfl) ?_
   refine GL_call (wn_none rfl) rfl rfl (cur_Text p _ ((l.drop 27)) (true) 32 _ (hp.get 0 rfl) (fun w' h => (hsuf18 w' (hsuf17 w' (hsuf16 w' (hsuf w' ((hs.keep (hp.modAt 0 rfl h)).asLen (by simp only [List.drop_zero]; omega))))))) (by rw [List.length_drop]; omega)) rfl ?_
   rintro _ w ⟨bv19, hsuf19, rfl, hk⟩
   have hp := hp.turnAtMore 0 rfl hk
   rw [cur_badL] at hsuf19
   rw [cur_badT] at hp
   rw [curText_true]
   refine GL_rd (wn_none rfl) rfl (rd_buildF (L := (recC (⟨(getL ((l.drop 4).take 1) : Int), (getL ((l.drop 5).take 6) : Int), ⟨(unpadL (grA l)).toArray⟩, a32Z, ⟨([] : List UInt8).toArray⟩, a32Z, a32Z⟩ : Rec))) rfl tz46 pl46 rfl (rec_fill _ _ _ _)) ?_
   refine GL_alloc (wn_none rfl) rfl rfl tz46 rfl hp ?_
   intro g4 w hp
   refine GL_store (i := 0) (wn_none rfl) rfl rfl rfl rfl ts46 rfl (recC_len _) (recC_one _) hp rfl (by first | exact Nat.le_of_ble_eq_true rfl | (rw [recC_len]; decide)) (splice_all _ _ (by first | rw [recC_len, recC_len] | (rw [recC_len]; rfl))) ?_
   intro w hp
   refine GL_nil ?_
   refine GW_seq ?_
   refine GW_drawnK 18 (.one 0 true (.one 4 true (.one 8 true (.one 1 false (.one 2 true (.one 3 true (.one 12 true (.one 5 false (.one 6 true (.one 7 true (.one 9 false (.one 10 true (.one 11 true (.one 13 false (.one 14 true (.one 15 false (.one 16 true (.one 17 false .nil)))))))))))))))))) mixed (by kernel_rfl) hp (fun _ h => h.mods) fun w hp => ?_
   have hpS21 := hp.mods
   refine GO_rdT (v := .pointer (some ⟨_, _, none⟩)) rfl (wn_none rfl) rfl (fun w => (rd_move rfl rfl)) ?_
   refine GO_rdT (v := .pointer (some ⟨_, _, none⟩)) rfl (wn_none rfl) rfl (fun w => (rd_move rfl rfl)) ?_
   refine GO_rdT (v := .pointer (some ⟨_, _, none⟩)) rfl (wn_none rfl) rfl (fun w => (rd_move rfl rfl)) ?_
   refine GO_of_GL rfl ?_
   refine GL_call (wn_none rfl) rfl rfl (cur_Bytes p _ ((l.drop 27)) (true) 32 _ (hp.get 1 rfl) (fun w' h => (hsuf19 w' (hsuf18 w' (hsuf17 w' (hsuf16 w' (hsuf w' ((hs.keep (hp.modAt 1 rfl h)).asLen (by simp only [List.drop_zero]; omega)))))))) (by rw [List.length_drop]; omega)) rfl ?_
   rintro v20 w ⟨bv20, hsuf20, hk⟩
   have hp := hp.turnAtMore 1 rfl hk
   obtain ⟨Av20, cv20, rfl⟩ := row_shape (hp.get 0 rfl)
   rw [cur_badL] at hsuf20
   rw [cur_badO, cur_badK, Bool.not_false] at hp
   rw [cur_badO]
   obtain ⟨gB, bB, rfl⟩ := (Sl.row (hp.get 0 rfl)).addr (by rw [bys_length]; first | (rw [cut32_length]; decide) | (rw [List.length_replicate]; decide))
   have hpS22 := hp.mods
   refine GL_nil ⟨fun _ => hpS22, ?_⟩
   refine GO_grow hp (fun _ h => (h.sub (.cons_cons _ (.cons _ (.cons _ (.cons_cons _ (.cons _ .slnil))))))) (fun _ h => h.mods) fun hpS23 => ?_
   refine GO_rd (v := _) rfl rfl (wn_none rfl) rfl hpS23 (fun w hp => (rd_toArr rfl rfl Tryz.underlying30 (by first | (rw [cut32_length]; decide) | (rw [List.length_replicate]; decide)))) ?_
   refine GO_rd rfl rfl (wn_none rfl) rfl hpS23 (fun w hp => (rd_loadN (L := _) rfl rfl Tryz.underlying30 rfl ts30 (by rw [bys_length]; first | exact cut32_length _ _ | rfl) (fun jq u hj => (Sl.row (hp.get 0 rfl)).get jq u hj))) ?_
   refine GO_rdT rfl (wn_none rfl) rfl (fun w => (rd_field rfl rfl fa46_3 _ rfl)) ?_
   refine GO_of_GL rfl ?_
   refine GL_call (wn_none rfl) rfl rfl (cur_Bytes p _ ((l.drop 27)) (true) 32 _ (hp.get 1 rfl) (fun w' h => (hsuf20 w' (hsuf19 w' (hsuf18 w' (hsuf17 w' (hsuf16 w' (hsuf w' ((hs.keep (hp.modAt 1 rfl h)).asLen (by simp only [List.drop_zero]; omega))))))))) (by rw [List.length_drop]; omega)) rfl ?_
   rintro v21 w ⟨bv21, hsuf21, hk⟩
   have hp := hp.turnAtMore 1 rfl hk
   obtain ⟨Av21, cv21, rfl⟩ := row_shape (hp.get 0 rfl)
   rw [cur_badL] at hsuf21
   rw [cur_badO, cur_badK, Bool.not_false] at hp
   rw [cur_badO]
   obtain ⟨gB, bB, rfl⟩ := (Sl.row (hp.get 0 rfl)).addr (by rw [bys_length]; first | (rw [cut32_length]; decide) | (rw [List.length_replicate]; decide))
   have hpS24 := (hp.sub (.cons _ (.cons _ (.cons_cons _ (.cons _ (.cons_cons _ (.cons _ .slnil)))))))
   refine GL_nil ⟨fun _ => hpS24, ?_⟩
   refine GO_grow hp (fun _ h => (h.sub (.cons_cons _ (.cons _ (.cons_cons _ (.cons _ (.cons_cons _ (.cons _ .slnil)))))))) (fun _ h => (h.sub (.cons _ (.cons_cons _ (.cons_cons _ .slnil))))) fun hpS25 => ?_
   refine GO_rd (v := _) rfl rfl (wn_none rfl) rfl hpS25 (fun w hp => (rd_toArr rfl rfl Tryz.underlying30 (by first | (rw [cut32_length]; decide) | (rw [List.length_replicate]; decide)))) ?_
   refine GO_rd rfl rfl (wn_none rfl) rfl hpS25 (fun w hp => (rd_loadN (L := _) rfl rfl Tryz.underlying30 rfl ts30 (by rw [bys_length]; first | exact cut32_length _ _ | rfl) (fun jq u hj => (Sl.row (hp.get 0 rfl)).get jq u hj))) ?_
   refine GO_of_GL rfl ?_
   refine GL_call (wn_none rfl) rfl rfl (cur_Bytes p _ ((l.drop 27)) (true) 32 _ (hp.get 1 rfl) (fun w' h => (hsuf21 w' (hsuf20 w' (hsuf19 w' (hsuf18 w' (hsuf17 w' (hsuf16 w' (hsuf w' ((hs.keep (hp.modAt 1 rfl h)).asLen (by simp only [List.drop_zero]; omega)))))))))) (by rw [List.length_drop]; omega)) rfl ?_
   rintro v22 w ⟨bv22, hsuf22, hk⟩
   have hp := hp.turnAtMore 1 rfl hk
   obtain ⟨Av22, cv22, rfl⟩ := row_shape (hp.get 0 rfl)
   rw [cur_badL] at hsuf22
   rw [cur_badO, cur_badK, Bool.not_false] at hp
   rw [cur_badO]
   obtain ⟨gB, bB, rfl⟩ := (Sl.row (hp.get 0 rfl)).addr (by rw [bys_length]; first | (rw [cut32_length]; decide) | (rw [List.length_replicate]; decide))
   have hpS26 := (hp.sub (.cons _ (.cons _ (.cons_cons _ (.cons_cons _ (.cons _ (.cons_cons _ (.cons _ .slnil))))))))
   refine GL_nil ⟨fun _ => hpS26, ?_⟩
   refine GO_grow hp (fun _ h => (h.sub (.cons_cons _ (.cons _ (.cons_cons _ (.cons_cons _ (.cons _ (.cons_cons _ (.cons _ .slnil))))))))) (fun _ h => (h.sub (.cons _ (.cons_cons _ (.cons_cons _ (.cons_cons _ .slnil)))))) fun hpS27 => ?_
   refine GO_rd (v := _) rfl rfl (wn_none rfl) rfl hpS27 (fun w hp => (rd_toArr rfl rfl Tryz.underlying30 (by first | (rw [cut32_length]; decide) | (rw [List.length_replicate]; decide)))) ?_
   refine GO_rd rfl rfl (wn_none rfl) rfl hpS27 (fun w hp => (rd_loadN (L := _) rfl rfl Tryz.underlying30 rfl ts30 (by rw [bys_length]; first | exact cut32_length _ _ | rfl) (fun jq u hj => (Sl.row (hp.get 0 rfl)).get jq u hj))) ?_
   refine GO_of_GL rfl ?_
   refine GL_store (i := 4) (wn_none rfl) rfl rfl rfl rfl ts30 rfl (by rw [bys_length]; first | exact cut32_length _ _ | rfl) (bys_one _) hp rfl (by rw [recC_len]; decide) (rec_setClip _ a32Z) ?_
   intro w hp
   have hpS28 := (hp.sub (.cons_cons _ (.cons _ (.cons_cons _ (.cons_cons _ (.cons _ (.cons_cons _ (.cons _ .slnil))))))))
   refine GL_nil ⟨fun _ => hpS28, ?_⟩
   refine GO_rdT rfl (wn_none rfl) rfl (fun w => (rd_field rfl rfl fa46_5 _ rfl)) ?_
   refine GO_of_GL rfl ?_
   refine GL_store (i := 4) (wn_none rfl) rfl rfl rfl rfl ts30 rfl (by rw [bys_length]; first | exact cut32_length _ _ | rfl) (bys_one _) hp rfl (by rw [recC_len]; decide) (rec_setPrev _ a32Z) ?_
   intro w hp
   have hpS29 := (hp.sub (.cons_cons _ (.cons _ (.cons_cons _ (.cons_cons _ (.cons _ (.cons_cons _ (.cons _ .slnil))))))))
   refine GL_nil ⟨fun _ => hpS29, ?_⟩
   refine GO_rdT rfl (wn_none rfl) rfl (fun w => (rd_field rfl rfl fa46_6 _ rfl)) ?_
   refine GO_of_GL rfl ?_
   refine GL_store (i := 4) (wn_none rfl) rfl rfl rfl rfl ts30 rfl (by rw [bys_length]; first | exact cut32_length _ _ | rfl) (bys_one _) hp rfl (by rw [recC_len]; decide) (rec_setSum _ a32Z) ?_
   intro w hp
   have hpS30 := (hp.sub (.cons_cons _ (.cons _ (.cons_cons _ (.cons_cons _ (.cons _ (.cons_cons _ (.cons _ .slnil))))))))
   refine GL_nil ⟨fun _ => hpS30, ?_⟩
   refine GO_nil ?_
   refine GW_seq ?_
   refine GW_seq ?_
   refine GW_region ?_
   refine GL_rd (v := .slice _ _ _) (wn_none rfl) rfl (rd_move rfl rfl) ?_
   refine GL_rd (wn_none rfl) rfl (rd_len rfl rfl Tryz.underlying35) ?_
   refine GL_rd (wn_none rfl) rfl (rd_bin rfl rfl rfl bo_neq) ?_
   refine GL_rd (v := .bool _) (wn_none rfl) rfl (rd_move rfl rfl) ?_
   refine GL_split (t := 42) (b := _) rfl ?_ ?_
   ·intro hb7; (try simp only [decide_eq_true_eq, decide_eq_false_iff_not, Bool.not_eq_true', Bool.not_eq_false', Bool.not_eq_eq_eq_not, Bool.not_true, Bool.not_false, Int.not_lt, Int.not_le] at hb7)
    exact absurd hb7 (by omega)
   ·intro hb7; (try simp only [decide_eq_true_eq, decide_eq_false_iff_not, Bool.not_eq_true', Bool.not_eq_false', Bool.not_eq_eq_eq_not, Bool.not_true, Bool.not_false, Int.not_lt, Int.not_le] at hb7)
    refine GL_rd (v := .pointer (some ⟨_, _, none⟩)) (wn_on rfl rfl rfl rfl) rfl (rd_move rfl rfl) ?_
    refine GL_call (wn_on rfl rfl rfl rfl) rfl rfl (cur_Right p _ ((l.drop 27)) (true) _ (hp.get 1 rfl) (fun w' h => (hsuf22 w' (hsuf21 w' (hsuf20 w' (hsuf19 w' (hsuf18 w' (hsuf17 w' (hsuf16 w' (hsuf w' ((hs.keep (hp.modAt 1 rfl h)).asLen (by simp only [List.drop_zero]; omega)))))))))))) rfl ?_
    rintro _ w ⟨rfl, hk⟩
    have hp := hp.comp hk
    refine GL_rd (wn_on rfl rfl rfl rfl) rfl (rd_not rfl rfl) ?_
    refine GL_rd (v := .bool _) (wn_none rfl) rfl (rd_pickF rfl rfl rfl) ?_
    refine GL_rd (v := .bool _) (wn_none rfl) rfl (rd_move rfl rfl) ?_
    refine GL_split (t := 47) (b := _) rfl ?_ ?_
    ·intro hb8; (try simp only [decide_eq_true_eq, decide_eq_false_iff_not, Bool.not_eq_true', Bool.not_eq_false', Bool.not_eq_eq_eq_not, Bool.not_true, Bool.not_false, Int.not_lt, Int.not_le] at hb8)
     refine GL_pass (nw_off rfl rfl rfl rfl rfl) rfl ?_
     refine GL_pass (nw_off rfl rfl rfl rfl rfl) rfl ?_
     refine GL_pass (nw_off rfl rfl rfl rfl rfl) rfl ?_
     refine GL_rd (v := .bool _) (wn_none rfl) rfl (rd_pickT rfl rfl rfl) ?_
     refine GL_nil ?_
     refine GW_true rfl ?_
     refine GW_seq ?_
     refine GW_region ?_
     refine GL_rd (wn_none rfl) rfl (rd_buildS (L := (recC recZ)) rfl tz46 pl46 (by kernel_rfl)) ?_
     refine GL_store (i := 6) (wn_none rfl) rfl rfl rfl rfl ts46 rfl (recC_len _) (recC_one _) hp rfl (by first | exact Nat.le_of_ble_eq_true rfl | (rw [recC_len]; decide)) (splice_all _ _ (by first | rw [recC_len, recC_len] | (rw [recC_len]; rfl))) ?_
     intro w hp
     refine GL_rd (v := .int _ _) (wn_none rfl) rfl (rd_assign rfl rfl) ?_
     refine GL_nil ?_
     refine GW_ret ?_
     have hno : grB l = false := grB_no (fun q => by first | exact absurd (hu.symm.trans q.2.1) (by decide) | exact absurd (hq.symm.trans q.2.2.1) (by decide) | exact hck q.2.2.2)
     exact ⟨_, res2 Tryz.results73 (rv_cell rfl rfl Tryz.underlying46 rfl ts46 (recC_len _) (hp.get 6 rfl)) (rv_tmp (v := .int _ _) rfl rfl), by rw [(get_no hno).1, (get_no hno).2], hp.mods⟩
    ·intro hb8; (try simp only [decide_eq_true_eq, decide_eq_false_iff_not, Bool.not_eq_true', Bool.not_eq_false', Bool.not_eq_eq_eq_not, Bool.not_true, Bool.not_false, Int.not_lt, Int.not_le] at hb8)
     cases hb8
end Go.Proofs.YtpagpmioopaciaaGreat
