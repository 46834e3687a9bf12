/- Walks of functions of the program. -/
import Derived.Test.YtblpmjbddpadcaaFDig
import Derived.Test.YtblpmjbddpadcaaFSeal
import Derived.Test.YtblpmjbddpadcaaFName
import Derived.Test.YtblpmjbddpadcaaAudS
set_option linter.unusedVariables false
set_option linter.unusedSimpArgs false
namespace Go.Proofs.Ytblpmjbddpadcaa
open Go.Mo Go.RowKit
theorem dig_One (sv u : Value) (l : List UInt8) (w0 : World) (hs : Sl w0 sv 1 1 [u]) (hu : Sl w0 u 1 l.length (bys l)) (hb : l.length ≤ 4294967296) : Does Try.prog 115 #[sv] w0 fun v w' => v = .agg ⟨bys (sumB l)⟩ ∧ Hp w0 [] w' [] := by
  have h := dig_Of sv 1 [(u, l)] w0 hs (by intro x hx; simp only [List.mem_singleton] at hx; subst hx; exact hu) (by simpa using hb)
  have e : ([(u, l)] : List (Value × List UInt8)).flatMap Prod.snd = l := by simp
  rwa [e] at h
theorem recAt59 : FlatAt Try.prog 59 recT := flatAt_of (by kernel_rfl)
theorem aud_Check (r : Rec) (w0 : World) (hz : r.actor.size ≤ 4294967296 ∧ r.reason.size ≤ 4294967296) : Does Try.prog 42 #[.agg ⟨recC r⟩] w0 fun v w' => v = .int .i64 (checkR r) ∧ Hp w0 [] w' [] := by
 refine does_of (l := [.agg ⟨recC r⟩]) Try.func42 (by kernel_rfl) rfl Try.ntmps42 rfl rfl ?_
 have hp := Hp.refl w0 []
 refine GW_seq ?_
 refine GW_region ?_
 refine GL_box (wn_none rfl) rfl rfl rfl rfl hp ?_
 intro g w hp
 refine GL_rd (v := .int _ _) (wn_none rfl) rfl (rd_assign rfl rfl) ?_
 refine GL_nil ?_
 refine GW_seq ?_
 refine GW_seq ?_
 refine GW_region ?_
 refine GL_rd (wn_none rfl) rfl (rd_field rfl rfl fa59_0 _ rfl) ?_
 refine GL_rd (wn_none rfl) rfl (rd_load rfl rfl Try.underlying3 rfl ((cell_of_cells (hp.get 0 rfl) _).trans (rec_kind _))) ?_
 refine GL_rd (wn_none rfl) rfl (rd_bin rfl rfl rfl bo_lss) ?_
 refine GL_rd (v := .bool _) (wn_none rfl) rfl (rd_move rfl rfl) ?_
 refine GL_split (t := 6) (b := _) rfl ?_ ?_
 ·intro hb; (try simp only [decide_eq_true_eq, decide_eq_false_iff_not, Bool.not_eq_true', Bool.not_eq_false', Bool.not_eq_eq_eq_not, Bool.not_true, Bool.not_false, Int.not_lt, Int.not_le] at hb)
  refine GL_pass (nw_off rfl rfl rfl rfl rfl) rfl ?_
  refine GL_pass (nw_off rfl rfl rfl rfl rfl) rfl ?_
  refine GL_pass (nw_off rfl rfl rfl rfl rfl) rfl ?_
  refine GL_rd (v := .bool _) (wn_none rfl) rfl (rd_pickT rfl rfl rfl) ?_
  refine GL_nil ?_
  refine GW_true rfl ?_
  refine GW_seq ?_
  refine GW_region ?_
  refine GL_rd (v := .int _ _) (wn_none rfl) rfl (rd_assign rfl rfl) ?_
  refine GL_nil ?_
  refine GW_ret ?_
  have ec : checkR r = _ := checkR_1 (by omega)
  exact ⟨_, res1 Try.results42 (rv_tmp (v := .int _ _) rfl rfl), by rw [ec], hp.mods⟩
 ·intro hb; (try simp only [decide_eq_true_eq, decide_eq_false_iff_not, Bool.not_eq_true', Bool.not_eq_false', Bool.not_eq_eq_eq_not, Bool.not_true, Bool.not_false, Int.not_lt, Int.not_le] at hb)
  refine GL_rd (wn_on rfl rfl rfl rfl) rfl (rd_field rfl rfl fa59_0 _ rfl) ?_
  refine GL_rd (wn_on rfl rfl rfl rfl) rfl (rd_load rfl rfl Try.underlying3 rfl ((cell_of_cells (hp.get 0 rfl) _).trans (rec_kind _))) ?_
  refine GL_rd (wn_on rfl rfl rfl rfl) rfl (rd_bin rfl rfl rfl bo_gtr) ?_
  refine GL_rd (v := .bool _) (wn_none rfl) rfl (rd_pickF rfl rfl rfl) ?_
  refine GL_nil ?_
  refine GW_cond rfl (fun hb2 => ?_) (fun hb2 => ?_)
  ·(try simp only [decide_eq_true_eq, decide_eq_false_iff_not, Bool.not_eq_true', Bool.not_eq_false', Bool.not_eq_eq_eq_not, Bool.not_true, Bool.not_false, Int.not_lt, Int.not_le] at hb2)
   refine GW_seq ?_
   refine GW_region ?_
   refine GL_rd (v := .int _ _) (wn_none rfl) rfl (rd_assign rfl rfl) ?_
   refine GL_nil ?_
   refine GW_ret ?_
   have ec : checkR r = _ := checkR_1 (by omega)
   exact ⟨_, res1 Try.results42 (rv_tmp (v := .int _ _) rfl rfl), by rw [ec], hp.mods⟩
  ·(try simp only [decide_eq_true_eq, decide_eq_false_iff_not, Bool.not_eq_true', Bool.not_eq_false', Bool.not_eq_eq_eq_not, Bool.not_true, Bool.not_false, Int.not_lt, Int.not_le] at hb2)
   refine GW_skip ?_
   refine GW_seq ?_
   refine GW_seq ?_
   refine GW_region ?_
   refine GL_rd (wn_none rfl) rfl (rd_field rfl rfl fa59_1 _ rfl) ?_
   refine GL_rd (wn_none rfl) rfl (rd_load rfl rfl Try.underlying3 rfl ((cell_of_cells (hp.get 0 rfl) _).trans (rec_time _))) ?_
   refine GL_rd (wn_none rfl) rfl (rd_bin rfl rfl rfl bo_lss) ?_
   refine GL_rd (v := .bool _) (wn_none rfl) rfl (rd_move rfl rfl) ?_
   refine GL_split (t := 14) (b := _) rfl ?_ ?_
   ·intro hb3; (try simp only [decide_eq_true_eq, decide_eq_false_iff_not, Bool.not_eq_true', Bool.not_eq_false', Bool.not_eq_eq_eq_not, Bool.not_true, Bool.not_false, Int.not_lt, Int.not_le] at hb3)
    refine GL_pass (nw_off rfl rfl rfl rfl rfl) rfl ?_
    refine GL_pass (nw_off rfl rfl rfl rfl rfl) rfl ?_
    refine GL_pass (nw_off rfl rfl rfl rfl rfl) rfl ?_
    refine GL_rd (v := .bool _) (wn_none rfl) rfl (rd_pickT rfl rfl rfl) ?_
    refine GL_nil ?_
    refine GW_true rfl ?_
    refine GW_seq ?_
    refine GW_region ?_
    refine GL_rd (v := .int _ _) (wn_none rfl) rfl (rd_assign rfl rfl) ?_
    refine GL_nil ?_
    refine GW_ret ?_
    have ec : checkR r = _ := checkR_2 (by omega) (by omega)
    exact ⟨_, res1 Try.results42 (rv_tmp (v := .int _ _) rfl rfl), by rw [ec], hp.mods⟩
   ·intro hb3; (try simp only [decide_eq_true_eq, decide_eq_false_iff_not, Bool.not_eq_true', Bool.not_eq_false', Bool.not_eq_eq_eq_not, Bool.not_true, Bool.not_false, Int.not_lt, Int.not_le] at hb3)
    refine GL_rd (wn_on rfl rfl rfl rfl) rfl (rd_field rfl rfl fa59_1 _ rfl) ?_
    refine GL_rd (wn_on rfl rfl rfl rfl) rfl (rd_load rfl rfl Try.underlying3 rfl ((cell_of_cells (hp.get 0 rfl) _).trans (rec_time _))) ?_
    refine GL_rd (wn_on rfl rfl rfl rfl) rfl (rd_bin rfl rfl rfl bo_gtr) ?_
    refine GL_rd (v := .bool _) (wn_none rfl) rfl (rd_pickF rfl rfl rfl) ?_
    refine GL_nil ?_
    refine GW_cond rfl (fun hb4 => ?_) (fun hb4 => ?_)
    ·(try simp only [decide_eq_true_eq, decide_eq_false_iff_not, Bool.not_eq_true', Bool.not_eq_false', Bool.not_eq_eq_eq_not, Bool.not_true, Bool.not_false, Int.not_lt, Int.not_le] at hb4)
     refine GW_seq ?_
     refine GW_region ?_
     refine GL_rd (v := .int _ _) (wn_none rfl) rfl (rd_assign rfl rfl) ?_
     refine GL_nil ?_
     refine GW_ret ?_
     have ec : checkR r = _ := checkR_2 (by omega) (by omega)
     exact ⟨_, res1 Try.results42 (rv_tmp (v := .int _ _) rfl rfl), by rw [ec], hp.mods⟩
    ·(try simp only [decide_eq_true_eq, decide_eq_false_iff_not, Bool.not_eq_true', Bool.not_eq_false', Bool.not_eq_eq_eq_not, Bool.not_true, Bool.not_false, Int.not_lt, Int.not_le] at hb4)
     refine GW_skip ?_
     refine GW_seq ?_
     refine GW_seq ?_
     refine GW_region ?_
     refine GL_rd (wn_none rfl) rfl (rd_field rfl rfl fa59_4 _ rfl) ?_
     refine GL_rd (wn_none rfl) rfl (rd_load rfl rfl Try.underlying9 rfl ((cell_of_cells (hp.get 0 rfl) _).trans (rec_reason _))) ?_
     refine GL_rd (wn_none rfl) rfl (rd_lenS rfl rfl Try.underlying9) ?_
     refine GL_rd (wn_none rfl) rfl (rd_bin rfl rfl rfl bo_gtr) ?_
     refine GL_nil ?_
     refine GW_cond rfl (fun hb5 => ?_) (fun hb5 => ?_)
     ·(try simp only [decide_eq_true_eq, decide_eq_false_iff_not, Bool.not_eq_true', Bool.not_eq_false', Bool.not_eq_eq_eq_not, Bool.not_true, Bool.not_false, Int.not_lt, Int.not_le] at hb5)
      refine GW_seq ?_
      refine GW_region ?_
      refine GL_rd (v := .int _ _) (wn_none rfl) rfl (rd_assign rfl rfl) ?_
      refine GL_nil ?_
      refine GW_ret ?_
      have ec : checkR r = _ := checkR_3 (by omega) (by omega) (by omega)
      exact ⟨_, res1 Try.results42 (rv_tmp (v := .int _ _) rfl rfl), by rw [ec], hp.mods⟩
     ·(try simp only [decide_eq_true_eq, decide_eq_false_iff_not, Bool.not_eq_true', Bool.not_eq_false', Bool.not_eq_eq_eq_not, Bool.not_true, Bool.not_false, Int.not_lt, Int.not_le] at hb5)
      refine GW_skip ?_
      refine GW_seq ?_
      refine GW_region ?_
      refine GL_rd (wn_none rfl) rfl (rd_field rfl rfl fa59_2 _ rfl) ?_
      refine GL_rd (wn_none rfl) rfl (rd_load rfl rfl Try.underlying9 rfl ((cell_of_cells (hp.get 0 rfl) _).trans (rec_actor _))) ?_
      refine GL_call (wn_none rfl) rfl rfl (cl_Name r.actor _ (by omega)) rfl ?_
      rintro _ w ⟨rfl, hk⟩
      have hp := hp.comp hk
      refine GL_rd (v := .int _ _) (wn_none rfl) rfl (rd_assign rfl rfl) ?_
      refine GL_nil ?_
      refine GW_ret ?_
      have ec : checkR r = _ := checkR_4 (by omega) (by omega) (by omega)
      exact ⟨_, res1 Try.results42 (rv_tmp (v := .int _ _) rfl rfl), by rw [ec], hp.mods⟩

theorem ref_audCheck (r : Rec) (w0 : World) (hz : r.actor.size ≤ 4294967296 ∧ r.reason.size ≤ 4294967296) : Does Try.prog 43 #[.agg ⟨recC r⟩] w0 fun v w' => v = .int .i64 (checkR r) ∧ Hp w0 [] w' [] := by
 refine does_of (l := [.agg ⟨recC r⟩]) Try.func43 (by kernel_rfl) rfl Try.ntmps43 rfl rfl ?_
 have hp := Hp.refl w0 []
 refine GW_seq ?_
 refine GW_region ?_
 refine GL_box (wn_none rfl) rfl rfl rfl rfl hp ?_
 intro g w hp
 refine GL_rd (v := .int _ _) (wn_none rfl) rfl (rd_assign rfl rfl) ?_
 refine GL_nil ?_
 refine GW_seq ?_
 refine GW_seq ?_
 refine GW_region ?_
 refine GL_rd (wn_none rfl) rfl (rd_field rfl rfl fa59_0 _ rfl) ?_
 refine GL_rd (wn_none rfl) rfl (rd_load rfl rfl Try.underlying3 rfl ((cell_of_cells (hp.get 0 rfl) _).trans (rec_kind _))) ?_
 refine GL_rd (wn_none rfl) rfl (rd_bin rfl rfl rfl bo_lss) ?_
 refine GL_rd (v := .bool _) (wn_none rfl) rfl (rd_move rfl rfl) ?_
 refine GL_split (t := 6) (b := _) rfl ?_ ?_
 ·intro hb; (try simp only [decide_eq_true_eq, decide_eq_false_iff_not, Bool.not_eq_true', Bool.not_eq_false', Bool.not_eq_eq_eq_not, Bool.not_true, Bool.not_false, Int.not_lt, Int.not_le] at hb)
  refine GL_pass (nw_off rfl rfl rfl rfl rfl) rfl ?_
  refine GL_pass (nw_off rfl rfl rfl rfl rfl) rfl ?_
  refine GL_pass (nw_off rfl rfl rfl rfl rfl) rfl ?_
  refine GL_rd (v := .bool _) (wn_none rfl) rfl (rd_pickT rfl rfl rfl) ?_
  refine GL_nil ?_
  refine GW_true rfl ?_
  refine GW_seq ?_
  refine GW_region ?_
  refine GL_rd (v := .int _ _) (wn_none rfl) rfl (rd_assign rfl rfl) ?_
  refine GL_nil ?_
  refine GW_ret ?_
  have ec : checkR r = _ := checkR_1 (by omega)
  exact ⟨_, res1 Try.results43 (rv_tmp (v := .int _ _) rfl rfl), by rw [ec], hp.mods⟩
 ·intro hb; (try simp only [decide_eq_true_eq, decide_eq_false_iff_not, Bool.not_eq_true', Bool.not_eq_false', Bool.not_eq_eq_eq_not, Bool.not_true, Bool.not_false, Int.not_lt, Int.not_le] at hb)
  refine GL_rd (wn_on rfl rfl rfl rfl) rfl (rd_field rfl rfl fa59_0 _ rfl) ?_
  refine GL_rd (wn_on rfl rfl rfl rfl) rfl (rd_load rfl rfl Try.underlying3 rfl ((cell_of_cells (hp.get 0 rfl) _).trans (rec_kind _))) ?_
  refine GL_rd (wn_on rfl rfl rfl rfl) rfl (rd_bin rfl rfl rfl bo_gtr) ?_
  refine GL_rd (v := .bool _) (wn_none rfl) rfl (rd_pickF rfl rfl rfl) ?_
  refine GL_nil ?_
  refine GW_cond rfl (fun hb2 => ?_) (fun hb2 => ?_)
  ·(try simp only [decide_eq_true_eq, decide_eq_false_iff_not, Bool.not_eq_true', Bool.not_eq_false', Bool.not_eq_eq_eq_not, Bool.not_true, Bool.not_false, Int.not_lt, Int.not_le] at hb2)
   refine GW_seq ?_
   refine GW_region ?_
   refine GL_rd (v := .int _ _) (wn_none rfl) rfl (rd_assign rfl rfl) ?_
   refine GL_nil ?_
   refine GW_ret ?_
   have ec : checkR r = _ := checkR_1 (by omega)
   exact ⟨_, res1 Try.results43 (rv_tmp (v := .int _ _) rfl rfl), by rw [ec], hp.mods⟩
  ·(try simp only [decide_eq_true_eq, decide_eq_false_iff_not, Bool.not_eq_true', Bool.not_eq_false', Bool.not_eq_eq_eq_not, Bool.not_true, Bool.not_false, Int.not_lt, Int.not_le] at hb2)
   refine GW_skip ?_
   refine GW_seq ?_
   refine GW_seq ?_
   refine GW_region ?_
   refine GL_rd (wn_none rfl) rfl (rd_field rfl rfl fa59_1 _ rfl) ?_
   refine GL_rd (wn_none rfl) rfl (rd_load rfl rfl Try.underlying3 rfl ((cell_of_cells (hp.get 0 rfl) _).trans (rec_time _))) ?_
   refine GL_rd (wn_none rfl) rfl (rd_bin rfl rfl rfl bo_lss) ?_
   refine GL_rd (v := .bool _) (wn_none rfl) rfl (rd_move rfl rfl) ?_
   refine GL_split (t := 14) (b := _) rfl ?_ ?_
   ·intro hb3; (try simp only [decide_eq_true_eq, decide_eq_false_iff_not, Bool.not_eq_true', Bool.not_eq_false', Bool.not_eq_eq_eq_not, Bool.not_true, Bool.not_false, Int.not_lt, Int.not_le] at hb3)
    refine GL_pass (nw_off rfl rfl rfl rfl rfl) rfl ?_
    refine GL_pass (nw_off rfl rfl rfl rfl rfl) rfl ?_
    refine GL_pass (nw_off rfl rfl rfl rfl rfl) rfl ?_
    refine GL_rd (v := .bool _) (wn_none rfl) rfl (rd_pickT rfl rfl rfl) ?_
    refine GL_nil ?_
    refine GW_true rfl ?_
    refine GW_seq ?_
    refine GW_region ?_
    refine GL_rd (v := .int _ _) (wn_none rfl) rfl (rd_assign rfl rfl) ?_
    refine GL_nil ?_
    refine GW_ret ?_
    have ec : checkR r = _ := checkR_2 (by omega) (by omega)
    exact ⟨_, res1 Try.results43 (rv_tmp (v := .int _ _) rfl rfl), by rw [ec], hp.mods⟩
   ·intro hb3; (try simp only [decide_eq_true_eq, decide_eq_false_iff_not, Bool.not_eq_true', Bool.not_eq_false', Bool.not_eq_eq_eq_not, Bool.not_true, Bool.not_false, Int.not_lt, Int.not_le] at hb3)
    refine GL_rd (wn_on rfl rfl rfl rfl) rfl (rd_field rfl rfl fa59_1 _ rfl) ?_
    refine GL_rd (wn_on rfl rfl rfl rfl) rfl (rd_load rfl rfl Try.underlying3 rfl ((cell_of_cells (hp.get 0 rfl) _).trans (rec_time _))) ?_
    refine GL_rd (wn_on rfl rfl rfl rfl) rfl (rd_bin rfl rfl rfl bo_gtr) ?_
    refine GL_rd (v := .bool _) (wn_none rfl) rfl (rd_pickF rfl rfl rfl) ?_
    refine GL_nil ?_
    refine GW_cond rfl (fun hb4 => ?_) (fun hb4 => ?_)
    ·(try simp only [decide_eq_true_eq, decide_eq_false_iff_not, Bool.not_eq_true', Bool.not_eq_false', Bool.not_eq_eq_eq_not, Bool.not_true, Bool.not_false, Int.not_lt, Int.not_le] at hb4)
     refine GW_seq ?_
     refine GW_region ?_
     refine GL_rd (v := .int _ _) (wn_none rfl) rfl (rd_assign rfl rfl) ?_
     refine GL_nil ?_
     refine GW_ret ?_
     have ec : checkR r = _ := checkR_2 (by omega) (by omega)
     exact ⟨_, res1 Try.results43 (rv_tmp (v := .int _ _) rfl rfl), by rw [ec], hp.mods⟩
    ·(try simp only [decide_eq_true_eq, decide_eq_false_iff_not, Bool.not_eq_true', Bool.not_eq_false', Bool.not_eq_eq_eq_not, Bool.not_true, Bool.not_false, Int.not_lt, Int.not_le] at hb4)
     refine GW_skip ?_
     refine GW_seq ?_
     refine GW_seq ?_
     refine GW_region ?_
     refine GL_rd (wn_none rfl) rfl (rd_field rfl rfl fa59_4 _ rfl) ?_
     refine GL_rd (wn_none rfl) rfl (rd_load rfl rfl Try.underlying9 rfl ((cell_of_cells (hp.get 0 rfl) _).trans (rec_reason _))) ?_
     refine GL_rd (wn_none rfl) rfl (rd_lenS rfl rfl Try.underlying9) ?_
     refine GL_rd (wn_none rfl) rfl (rd_bin rfl rfl rfl bo_gtr) ?_
     refine GL_nil ?_
     refine GW_cond rfl (fun hb5 => ?_) (fun hb5 => ?_)
     ·(try simp only [decide_eq_true_eq, decide_eq_false_iff_not, Bool.not_eq_true', Bool.not_eq_false', Bool.not_eq_eq_eq_not, Bool.not_true, Bool.not_false, Int.not_lt, Int.not_le] at hb5)
      refine GW_seq ?_
      refine GW_region ?_
      refine GL_rd (v := .int _ _) (wn_none rfl) rfl (rd_assign rfl rfl) ?_
      refine GL_nil ?_
      refine GW_ret ?_
      have ec : checkR r = _ := checkR_3 (by omega) (by omega) (by omega)
      exact ⟨_, res1 Try.results43 (rv_tmp (v := .int _ _) rfl rfl), by rw [ec], hp.mods⟩
     ·(try simp only [decide_eq_true_eq, decide_eq_false_iff_not, Bool.not_eq_true', Bool.not_eq_false', Bool.not_eq_eq_eq_not, Bool.not_true, Bool.not_false, Int.not_lt, Int.not_le] at hb5)
      refine GW_skip ?_
      refine GW_seq ?_
      refine GW_region ?_
      refine GL_rd (wn_none rfl) rfl (rd_field rfl rfl fa59_2 _ rfl) ?_
      refine GL_rd (wn_none rfl) rfl (rd_load rfl rfl Try.underlying9 rfl ((cell_of_cells (hp.get 0 rfl) _).trans (rec_actor _))) ?_
      refine GL_call (wn_none rfl) rfl rfl (ref_clName r.actor _ (by omega)) rfl ?_
      rintro _ w ⟨rfl, hk⟩
      have hp := hp.comp hk
      refine GL_rd (v := .int _ _) (wn_none rfl) rfl (rd_assign rfl rfl) ?_
      refine GL_nil ?_
      refine GW_ret ?_
      have ec : checkR r = _ := checkR_4 (by omega) (by omega) (by omega)
      exact ⟨_, res1 Try.results43 (rv_tmp (v := .int _ _) rfl rfl), by rw [ec], hp.mods⟩

theorem aud_said (r : Rec) (w0 : World) (hz : r.actor.size ≤ 4294967296 ∧ r.reason.size ≤ 4294967296) : Does Try.prog 107 #[.agg ⟨recC r⟩] w0 fun v w' => Hp w0 [] w' [.row 5 1 v (saidR r).length (bys (saidR r))] := by
 have hl1 := pad_le r.actor.data.toList 16
 have hl2 := pad_le r.reason.data.toList 32
 have hl3 := saidR_le r
 refine does_of (l := [.agg ⟨recC r⟩]) Try.func107 (by kernel_rfl) rfl Try.ntmps107 rfl rfl ?_
 have hp := Hp.refl w0 []
 refine GW_seq ?_
 refine GW_region ?_
 refine GL_box (wn_none rfl) rfl rfl rfl rfl hp ?_
 intro g w hp
 refine GL_rd (v := .slice _ _ _) (wn_none rfl) rfl (rd_assign rfl rfl) ?_
 refine GL_nil ?_
 refine GW_seq ?_
 refine GW_region ?_
 refine GL_lit (L := (bys [65, 85, 68, 84])) (wn_none rfl) rfl rfl Try.underlying39 ts5 tz5 rfl (by kernel_rfl) rfl rfl hp ?_
 intro g2 w hp
 refine GL_convB (i := 0) (wn_none rfl) rfl rfl rfl Try.underlying39 Try.underlying5 hp rfl ?_
 intro w hp
 refine GL_rd (wn_none rfl) rfl (rd_field rfl rfl fa59_0 _ rfl) ?_
 refine GL_rd (wn_none rfl) rfl (rd_load rfl rfl Try.underlying3 rfl ((cell_of_cells (hp.get 1 rfl) _).trans (rec_kind _))) ?_
 refine GL_rd (wn_none rfl) rfl (rd_convE (q := ((kB r.kind).toNat : Int)) rfl rfl Try.underlying5 Try.underlying3 (by simp) (kB_wrap _)) ?_
 refine GL_lit (L := (bys [kB r.kind])) (wn_none rfl) rfl rfl Try.underlying39 ts5 tz5 rfl (by kernel_rfl) rfl rfl hp ?_
 intro g3 w hp
 refine GL_appendFull (wn_none rfl) rfl rfl rfl rfl Try.underlying39 ti5 rfl (by decide) hp (Sl.blk (hp.get 1 rfl) 1 _ rfl (by simp [maxLen])) (Sl.row (hp.get 0 rfl)) (by omega) (by decide) (by omega) (by omega) (by omega) ?_
 intro v w hp
 obtain ⟨Av, cv, rfl⟩ := row_shape (hp.get 0 rfl)
 rw [← bys_append] at hp
 refine GL_rd (v := .slice _ _ _) (wn_none rfl) rfl (rd_assign rfl rfl) ?_
 refine GL_nil ?_
 refine GW_seq ?_
 refine GW_region ?_
 refine GL_rd (v := .slice _ _ _) (wn_none rfl) rfl (rd_move rfl rfl) ?_
 refine GL_rd (wn_none rfl) rfl (rd_field rfl rfl fa59_1 _ rfl) ?_
 refine GL_rd (wn_none rfl) rfl (rd_load rfl rfl Try.underlying3 rfl ((cell_of_cells (hp.get 3 rfl) _).trans (rec_time _))) ?_
 refine GL_rd (wn_none rfl) rfl (rd_convE (q := (u64N r.time : Int)) rfl rfl Try.underlying160 Try.underlying3 (by simp) (u64_wrapN _)) ?_
 refine GL_call (wn_none rfl) rfl rfl (word_Put (u64N r.time) 6 _ (u64N_lt _) (by decide)) rfl ?_
 rintro _ w ⟨q, rfl, hk⟩
 have hp := hp.comp hk
 refine GL_append (i := 1) (wn_none rfl) rfl rfl rfl rfl Try.underlying39 ti5 rfl (by decide) hp rfl (Sl.row (hp.get 0 rfl)) (bys_one _) (by omega) (by omega) ?_
 intro v2 w hp
 obtain ⟨Av2, cv2, rfl⟩ := row_shape (hp.get 1 rfl)
 rw [← bys_append] at hp
 refine GL_rd (v := .slice _ _ _) (wn_none rfl) rfl (rd_assign rfl rfl) ?_
 refine GL_nil ?_
 refine GW_seq ?_
 refine GW_region ?_
 refine GL_rd (wn_none rfl) rfl (rd_field rfl rfl fa59_2 _ rfl) ?_
 refine GL_rd (wn_none rfl) rfl (rd_load rfl rfl Try.underlying9 rfl ((cell_of_cells (hp.get 4 rfl) _).trans (rec_actor _))) ?_
 refine GL_call (wn_none rfl) rfl rfl (word_Pad r.actor 16 _ (by omega)) rfl ?_
 rintro _ w ⟨tA, rfl, hk⟩
 have hp := hp.comp hk
 refine GL_rd (v := .tuple _) (wn_none rfl) rfl (rd_move rfl rfl) ?_
 refine GL_rd (v := tA) (wn_none rfl) rfl (rd_extract rfl rfl rfl) ?_
 refine GL_rd (v := .int _ _) (wn_none rfl) rfl (rd_extract rfl rfl rfl) ?_
 refine GL_rd (v := tA) (wn_none rfl) rfl (rd_assign rfl rfl) ?_
 refine GL_rd (v := .int _ _) (wn_none rfl) rfl (rd_assign rfl rfl) ?_
 refine GL_nil ?_
 refine GW_seq ?_
 refine GW_region ?_
 refine GL_rd (wn_none rfl) rfl (rd_field rfl rfl fa59_4 _ rfl) ?_
 refine GL_rd (wn_none rfl) rfl (rd_load rfl rfl Try.underlying9 rfl ((cell_of_cells (hp.get 5 rfl) _).trans (rec_reason _))) ?_
 refine GL_call (wn_none rfl) rfl rfl (word_Pad r.reason 32 _ (by omega)) rfl ?_
 rintro _ w ⟨tR, rfl, hk⟩
 have hp := hp.comp hk
 refine GL_rd (v := .tuple _) (wn_none rfl) rfl (rd_move rfl rfl) ?_
 refine GL_rd (v := tR) (wn_none rfl) rfl (rd_extract rfl rfl rfl) ?_
 refine GL_rd (v := .int _ _) (wn_none rfl) rfl (rd_extract rfl rfl rfl) ?_
 refine GL_rd (v := tR) (wn_none rfl) rfl (rd_assign rfl rfl) ?_
 refine GL_rd (v := .int _ _) (wn_none rfl) rfl (rd_assign rfl rfl) ?_
 refine GL_nil ?_
 refine GW_seq ?_
 refine GW_region ?_
 refine GL_rd (v := .slice _ _ _) (wn_none rfl) rfl (rd_move rfl rfl) ?_
 refine GL_rd (v := tA) (wn_none rfl) rfl (rd_move rfl rfl) ?_
 refine GL_append (i := 3) (wn_none rfl) rfl rfl rfl rfl Try.underlying39 ti5 rfl (by decide) hp rfl (Sl.row (hp.get 1 rfl)) (bys_one _) (by omega) (by omega) ?_
 intro v3 w hp
 obtain ⟨Av3, cv3, rfl⟩ := row_shape (hp.get 3 rfl)
 rw [← bys_append] at hp
 refine GL_rd (v := tR) (wn_none rfl) rfl (rd_move rfl rfl) ?_
 refine GL_append (i := 3) (wn_none rfl) rfl rfl rfl rfl Try.underlying39 ti5 rfl (by decide) hp rfl (Sl.row (hp.get 0 rfl)) (bys_one _) (by omega) (by omega) ?_
 intro v4 w hp
 obtain ⟨Av4, cv4, rfl⟩ := row_shape (hp.get 3 rfl)
 rw [← bys_append] at hp
 refine GL_rd (v := .slice _ _ _) (wn_none rfl) rfl (rd_assign rfl rfl) ?_
 refine GL_nil ?_
 refine GW_seq ?_
 refine GW_drawnK 8 (.one 0 true (.one 1 true (.one 2 true (.one 4 true (.one 5 true (.one 3 false (.one 6 false (.one 7 true .nil)))))))) mixed (by kernel_rfl) hp (fun _ h => (h.sub (.cons _ (.cons _ (.cons _ (.cons _ (.cons _ (.cons _ (.cons_cons _ .slnil))))))))) fun w hp => ?_
 have hpS := (hp.sub (.cons _ (.cons _ (.cons _ (.cons _ (.cons _ (.cons _ (.cons_cons _ .slnil))))))))
 refine GO_rdT (v := .slice _ _ _) rfl (wn_none rfl) rfl (fun w => (rd_move rfl rfl)) ?_
 refine GO_rdT rfl (wn_none rfl) rfl (fun w => (rd_field rfl rfl fa59_3 _ rfl)) ?_
 refine GO_rd rfl rfl (wn_none rfl) rfl hpS (fun w hp => (rd_sliceA (lo := 0) (hi := 32) rfl rfl Try.underlying57 ts5 at_none to_none (by decide) (by decide) (by decide) _ rfl)) ?_
 refine GO_rdT rfl (wn_none rfl) rfl (fun w => (rd_field rfl rfl fa59_5 _ rfl)) ?_
 refine GO_rd rfl rfl (wn_none rfl) rfl hpS (fun w hp => (rd_sliceA (lo := 0) (hi := 32) rfl rfl Try.underlying57 ts5 at_none to_none (by decide) (by decide) (by decide) _ rfl)) ?_
 refine GO_of_GL rfl ?_
 refine GL_append (i := 3) (wn_none rfl) rfl rfl rfl rfl Try.underlying39 ti5 rfl (by decide) hp rfl (Sl.cells (hp.get 6 rfl) 1 32 32 3 _ (rec_clipC r) (by rw [recC_len]; decide) (by decide) (by decide)) (bys_one _) (by omega) (by omega) ?_
 intro v5 w hp
 obtain ⟨Av5, cv5, rfl⟩ := row_shape (hp.get 3 rfl)
 rw [← bys_append] at hp
 have hpS2 := (hp.sub (.cons _ (.cons _ (.cons _ (.cons _ (.cons _ (.cons _ (.cons_cons _ .slnil))))))))
 refine GL_nil ⟨fun _ => hpS2, ?_⟩
 refine GO_of_GL rfl ?_
 refine GL_append (i := 3) (wn_none rfl) rfl rfl rfl rfl Try.underlying39 ti5 rfl (by decide) hp rfl (Sl.cells (hp.get 6 rfl) 1 32 32 36 _ (rec_prevC r) (by rw [recC_len]; decide) (by decide) (by decide)) (bys_one _) (by omega) (by omega) ?_
 intro v6 w hp
 rw [← bys_append] at hp
 have hpS3 := (hp.sub (.cons _ (.cons _ (.cons _ (.cons _ (.cons _ (.cons _ (.cons_cons _ .slnil))))))))
 refine GL_nil ⟨fun _ => hpS3, ?_⟩
 refine GO_rdT (v := v6) rfl (wn_none rfl) rfl (fun w => (rd_assign rfl rfl)) ?_
 refine GO_nil ?_
 refine GW_ret ?_
 have e : [65, 85, 68, 84] ++ [kB r.kind] ++ putL (u64N r.time) 6 ++ padL r.actor.data.toList 16 ++ padL r.reason.data.toList 32 ++ r.clip.1 ++ r.prev.1 = saidR r := by simp only [saidR, List.append_assoc]
 have hp := ((hp.front 3 rfl).take 1)
 replace hp := hp.cast (show _ = [Res.row 5 1 v6 _ (bys (saidR r))] by rw [← e]; rfl)
 have en := row_n (hp.get 0 rfl)
 rw [en] at hp
 exact ⟨_, res1 Try.results107 (rv_tmp (v := v6) rfl rfl), hp⟩

theorem ref_audSaid (r : Rec) (w0 : World) (hz : r.actor.size ≤ 4294967296 ∧ r.reason.size ≤ 4294967296) : Does Try.prog 108 #[.agg ⟨recC r⟩] w0 fun v w' => Hp w0 [] w' [.row 5 1 v (saidR r).length (bys (saidR r))] := by
 have hl1 := pad_le r.actor.data.toList 16
 have hl2 := pad_le r.reason.data.toList 32
 have hl3 := saidR_le r
 refine does_of (l := [.agg ⟨recC r⟩]) Try.func108 (by kernel_rfl) rfl Try.ntmps108 rfl rfl ?_
 have hp := Hp.refl w0 []
 refine GW_seq ?_
 refine GW_region ?_
 refine GL_box (wn_none rfl) rfl rfl rfl rfl hp ?_
 intro g w hp
 refine GL_rd (v := .slice _ _ _) (wn_none rfl) rfl (rd_assign rfl rfl) ?_
 refine GL_nil ?_
 refine GW_seq ?_
 refine GW_region ?_
 refine GL_lit (L := (bys [65, 85, 68, 84])) (wn_none rfl) rfl rfl Try.underlying39 ts5 tz5 rfl (by kernel_rfl) rfl rfl hp ?_
 intro g2 w hp
 refine GL_convB (i := 0) (wn_none rfl) rfl rfl rfl Try.underlying39 Try.underlying5 hp rfl ?_
 intro w hp
 refine GL_rd (v := .slice _ _ _) (wn_none rfl) rfl (rd_assign rfl rfl) ?_
 refine GL_nil ?_
 refine GW_seq ?_
 refine GW_region ?_
 refine GL_rd (v := .slice _ _ _) (wn_none rfl) rfl (rd_move rfl rfl) ?_
 refine GL_rd (wn_none rfl) rfl (rd_field rfl rfl fa59_0 _ rfl) ?_
 refine GL_rd (wn_none rfl) rfl (rd_load rfl rfl Try.underlying3 rfl ((cell_of_cells (hp.get 1 rfl) _).trans (rec_kind _))) ?_
 refine GL_rd (wn_none rfl) rfl (rd_convE (q := ((kB r.kind).toNat : Int)) rfl rfl Try.underlying5 Try.underlying3 (by simp) (kB_wrap _)) ?_
 refine GL_lit (L := (bys [kB r.kind])) (wn_none rfl) rfl rfl Try.underlying39 ts5 tz5 rfl (by kernel_rfl) rfl rfl hp ?_
 intro g3 w hp
 refine GL_appendFull (wn_none rfl) rfl rfl rfl rfl Try.underlying39 ti5 rfl (by decide) hp (Sl.blk (hp.get 1 rfl) 1 _ rfl (by simp [maxLen])) (Sl.row (hp.get 0 rfl)) (by omega) (by decide) (by omega) (by omega) (by omega) ?_
 intro v w hp
 obtain ⟨Av, cv, rfl⟩ := row_shape (hp.get 0 rfl)
 rw [← bys_append] at hp
 refine GL_rd (v := .slice _ _ _) (wn_none rfl) rfl (rd_assign rfl rfl) ?_
 refine GL_nil ?_
 refine GW_seq ?_
 refine GW_region ?_
 refine GL_rd (v := .slice _ _ _) (wn_none rfl) rfl (rd_move rfl rfl) ?_
 refine GL_rd (wn_none rfl) rfl (rd_field rfl rfl fa59_1 _ rfl) ?_
 refine GL_rd (wn_none rfl) rfl (rd_load rfl rfl Try.underlying3 rfl ((cell_of_cells (hp.get 3 rfl) _).trans (rec_time _))) ?_
 refine GL_rd (wn_none rfl) rfl (rd_convE (q := (u64N r.time : Int)) rfl rfl Try.underlying160 Try.underlying3 (by simp) (u64_wrapN _)) ?_
 refine GL_call (wn_none rfl) rfl rfl (ref_Put 6 (u64N r.time) 6 _ (u64N_lt _) (by decide) rfl) rfl ?_
 intro q w hk
 have hp := hp.comp hk
 refine GL_append (i := 1) (wn_none rfl) rfl rfl rfl rfl Try.underlying39 ti5 rfl (by decide) hp rfl (Sl.row (hp.get 0 rfl)) (bys_one _) (by omega) (by omega) ?_
 intro v2 w hp
 obtain ⟨Av2, cv2, rfl⟩ := row_shape (hp.get 1 rfl)
 rw [← bys_append] at hp
 refine GL_rd (v := .slice _ _ _) (wn_none rfl) rfl (rd_assign rfl rfl) ?_
 refine GL_nil ?_
 refine GW_seq ?_
 refine GW_region ?_
 refine GL_rd (wn_none rfl) rfl (rd_field rfl rfl fa59_2 _ rfl) ?_
 refine GL_rd (wn_none rfl) rfl (rd_load rfl rfl Try.underlying9 rfl ((cell_of_cells (hp.get 4 rfl) _).trans (rec_actor _))) ?_
 refine GL_call (wn_none rfl) rfl rfl (ref_Pad r.actor 16 _ (by omega)) rfl ?_
 rintro _ w ⟨tA, rfl, hk⟩
 have hp := hp.comp hk
 refine GL_rd (v := .tuple _) (wn_none rfl) rfl (rd_move rfl rfl) ?_
 refine GL_rd (v := tA) (wn_none rfl) rfl (rd_extract rfl rfl rfl) ?_
 refine GL_rd (v := .int _ _) (wn_none rfl) rfl (rd_extract rfl rfl rfl) ?_
 refine GL_rd (v := tA) (wn_none rfl) rfl (rd_assign rfl rfl) ?_
 refine GL_rd (v := .int _ _) (wn_none rfl) rfl (rd_assign rfl rfl) ?_
 refine GL_nil ?_
 refine GW_seq ?_
 refine GW_region ?_
 refine GL_rd (v := .slice _ _ _) (wn_none rfl) rfl (rd_move rfl rfl) ?_
 refine GL_rd (v := tA) (wn_none rfl) rfl (rd_move rfl rfl) ?_
 refine GL_append (i := 2) (wn_none rfl) rfl rfl rfl rfl Try.underlying39 ti5 rfl (by decide) hp rfl (Sl.row (hp.get 0 rfl)) (bys_one _) (by omega) (by omega) ?_
 intro v3 w hp
 obtain ⟨Av3, cv3, rfl⟩ := row_shape (hp.get 2 rfl)
 rw [← bys_append] at hp
 refine GL_rd (v := .slice _ _ _) (wn_none rfl) rfl (rd_assign rfl rfl) ?_
 refine GL_nil ?_
 refine GW_seq ?_
 refine GW_region ?_
 refine GL_rd (wn_none rfl) rfl (rd_field rfl rfl fa59_4 _ rfl) ?_
 refine GL_rd (wn_none rfl) rfl (rd_load rfl rfl Try.underlying9 rfl ((cell_of_cells (hp.get 5 rfl) _).trans (rec_reason _))) ?_
 refine GL_call (wn_none rfl) rfl rfl (ref_Pad r.reason 32 _ (by omega)) rfl ?_
 rintro _ w ⟨tR, rfl, hk⟩
 have hp := hp.comp hk
 refine GL_rd (v := .tuple _) (wn_none rfl) rfl (rd_move rfl rfl) ?_
 refine GL_rd (v := tR) (wn_none rfl) rfl (rd_extract rfl rfl rfl) ?_
 refine GL_rd (v := .int _ _) (wn_none rfl) rfl (rd_extract rfl rfl rfl) ?_
 refine GL_rd (v := tR) (wn_none rfl) rfl (rd_assign rfl rfl) ?_
 refine GL_rd (v := .int _ _) (wn_none rfl) rfl (rd_assign rfl rfl) ?_
 refine GL_nil ?_
 refine GW_seq ?_
 refine GW_region ?_
 refine GL_rd (v := .slice _ _ _) (wn_none rfl) rfl (rd_move rfl rfl) ?_
 refine GL_rd (v := tR) (wn_none rfl) rfl (rd_move rfl rfl) ?_
 refine GL_append (i := 3) (wn_none rfl) rfl rfl rfl rfl Try.underlying39 ti5 rfl (by decide) hp rfl (Sl.row (hp.get 0 rfl)) (bys_one _) (by omega) (by omega) ?_
 intro v4 w hp
 obtain ⟨Av4, cv4, rfl⟩ := row_shape (hp.get 3 rfl)
 rw [← bys_append] at hp
 refine GL_rd (v := .slice _ _ _) (wn_none rfl) rfl (rd_assign rfl rfl) ?_
 refine GL_nil ?_
 refine GW_seq ?_
 refine GW_seq ?_
 refine GW_region ?_
 refine GL_rd (v := .int _ _) (wn_none rfl) rfl (rd_assign rfl rfl) ?_
 refine GL_nil ?_
 refine GW_block ?_
 refine GW_loop ?_
 refine Lp_ind (α := Nat × Nat × Option Addr × Nat × List UInt8) (fun a_0 f_0 w' => match a_0 with | (i, n, A2, c2, xs) => ∃ fz, f_0 = (upd (upd (upd fz 1 (.pointer (some ⟨g, 0, none⟩))) 3 (.slice A2 n c2)) 8 (.int .i64 (i : Int))) ∧ Hp w0 [] w' [.row 5 1 (.slice A2 n c2) n (bys xs), cells g 59 (recC r)] ∧ (i ≤ 32) ∧ (n = (4 + 1 + 6 + (padL r.actor.data.toList 16).length + (padL r.reason.data.toList 32).length) + i) ∧ (xs = ([65, 85, 68, 84] ++ [kB r.kind] ++ putL (u64N r.time) 6 ++ padL r.actor.data.toList 16 ++ padL r.reason.data.toList 32) ++ (r.clip.1).take i)) (fun a_0 => match a_0 with | (i, n, A2, c2, xs) => 32 - i) ?_ (0, (4 + 1 + 6 + (padL r.actor.data.toList 16).length + (padL r.reason.data.toList 32).length), Av4, cv4, ([65, 85, 68, 84] ++ [kB r.kind] ++ putL (u64N r.time) 6 ++ padL r.actor.data.toList 16 ++ padL r.reason.data.toList 32)) _ _ ?_
 ·rintro ⟨i, n, A2, c2, xs⟩ f wz ⟨fz, rfl, hp, hi0, hn, hx⟩ ihL0
  refine Lp_round ?_
  refine GW_seq ?_
  refine GW_seq ?_
  refine GW_region ?_
  refine GL_rd (v := .int _ _) (wn_none rfl) rfl (rd_move rfl rfl) ?_
  refine GL_rd (wn_none rfl) rfl (rd_bin rfl rfl rfl bo_lss) ?_
  refine GL_nil ?_
  refine GW_cond rfl (fun hb => ?_) (fun hb => ?_)
  ·(try simp only [decide_eq_true_eq, decide_eq_false_iff_not, Bool.not_eq_true', Bool.not_eq_false', Bool.not_eq_eq_eq_not, Bool.not_true, Bool.not_false, Int.not_lt, Int.not_le] at hb)
   refine GW_skip ?_
   refine GW_seq ?_
   refine GW_block ?_
   refine GW_region ?_
   refine GL_rd (v := .slice _ _ _) (wn_none rfl) rfl (rd_move rfl rfl) ?_
   refine GL_rd (v := .int _ _) (wn_none rfl) rfl (rd_move rfl rfl) ?_
   refine GL_rd (wn_none rfl) rfl (rd_field rfl rfl fa59_3 _ rfl) ?_
   refine GL_rd (wn_none rfl) rfl (rd_indexA (j := i) rfl rfl rfl Try.underlying57 ts5 rfl (by omega) _ rfl) ?_
   refine GL_rd (wn_none rfl) rfl (rd_load rfl rfl Try.underlying5 rfl ((cell_of_cells (hp.get 1 rfl) _).trans (rec_byteClip r (by omega)))) ?_
   refine GL_lit (L := (bys [(r.clip.1).getD i 0])) (wn_none rfl) rfl rfl Try.underlying39 ts5 tz5 rfl (by kernel_rfl) rfl rfl hp ?_
   intro g4 w hp
   refine GL_append (i := 1) (wn_none rfl) rfl rfl rfl rfl Try.underlying39 ti5 rfl (by decide) hp rfl (Sl.row (hp.get 0 rfl)) (bys_one _) (by omega) (by omega) ?_
   intro v5 w hp
   obtain ⟨Av5, cv5, rfl⟩ := row_shape (hp.get 1 rfl)
   rw [← bys_append] at hp
   refine GL_rd (v := .slice _ _ _) (wn_none rfl) rfl (rd_assign rfl rfl) ?_
   refine GL_nil ?_
   refine GW_region ?_
   refine GL_rd (v := .int _ _) (wn_none rfl) rfl (rd_move rfl rfl) ?_
   refine GL_rd (wn_none rfl) rfl (rd_bin rfl rfl rfl (bo_add64 (by omega))) ?_
   refine GL_rd (v := .int _ _) (wn_none rfl) rfl (rd_assign rfl rfl) ?_
   refine GL_nil ?_
   have hp := (((hp.front 2 rfl).front 2 rfl).take 2)
   exact ihL0 (i + 1, _, _, _, _) _ _ (by simp only []; omega) ⟨_, slots3 rfl rfl rfl, hp, by omega, by omega, by rw [hx, List.append_assoc, List.take_succ_eq_append_getD (by rw [r.clip.2]; omega)]⟩
  ·(try simp only [decide_eq_true_eq, decide_eq_false_iff_not, Bool.not_eq_true', Bool.not_eq_false', Bool.not_eq_eq_eq_not, Bool.not_true, Bool.not_false, Int.not_lt, Int.not_le] at hb)
   obtain rfl : i = 32 := by omega
   refine GW_exit ?_
   refine GW_seq ?_
   refine GW_seq ?_
   refine GW_region ?_
   refine GL_rd (v := .int _ _) (wn_none rfl) rfl (rd_assign rfl rfl) ?_
   refine GL_nil ?_
   refine GW_block ?_
   refine GW_loop ?_
   refine Lp_ind (α := Nat × Nat × Option Addr × Nat × List UInt8) (fun a_0 f_0 w' => match a_0 with | (i, n, A2, c2, xs) => ∃ fz, f_0 = (upd (upd (upd fz 1 (.pointer (some ⟨g, 0, none⟩))) 3 (.slice A2 n c2)) 9 (.int .i64 (i : Int))) ∧ Hp w0 [] w' [.row 5 1 (.slice A2 n c2) n (bys xs), cells g 59 (recC r)] ∧ (i ≤ 32) ∧ (n = ((4 + 1 + 6 + (padL r.actor.data.toList 16).length + (padL r.reason.data.toList 32).length) + 32) + i) ∧ (xs = (([65, 85, 68, 84] ++ [kB r.kind] ++ putL (u64N r.time) 6 ++ padL r.actor.data.toList 16 ++ padL r.reason.data.toList 32) ++ r.clip.1) ++ (r.prev.1).take i)) (fun a_0 => match a_0 with | (i, n, A2, c2, xs) => 32 - i) ?_ (0, n, A2, c2, xs) _ _ ?_
   ·rintro ⟨i, n, A2, c2, xs⟩ f wz ⟨fz, rfl, hp, hi0, hn, hx⟩ ihL1
    refine Lp_round ?_
    refine GW_seq ?_
    refine GW_seq ?_
    refine GW_region ?_
    refine GL_rd (v := .int _ _) (wn_none rfl) rfl (rd_move rfl rfl) ?_
    refine GL_rd (wn_none rfl) rfl (rd_bin rfl rfl rfl bo_lss) ?_
    refine GL_nil ?_
    refine GW_cond rfl (fun hb2 => ?_) (fun hb2 => ?_)
    ·(try simp only [decide_eq_true_eq, decide_eq_false_iff_not, Bool.not_eq_true', Bool.not_eq_false', Bool.not_eq_eq_eq_not, Bool.not_true, Bool.not_false, Int.not_lt, Int.not_le] at hb2)
     refine GW_skip ?_
     refine GW_seq ?_
     refine GW_block ?_
     refine GW_region ?_
     refine GL_rd (v := .slice _ _ _) (wn_none rfl) rfl (rd_move rfl rfl) ?_
     refine GL_rd (v := .int _ _) (wn_none rfl) rfl (rd_move rfl rfl) ?_
     refine GL_rd (wn_none rfl) rfl (rd_field rfl rfl fa59_5 _ rfl) ?_
     refine GL_rd (wn_none rfl) rfl (rd_indexA (j := i) rfl rfl rfl Try.underlying57 ts5 rfl (by omega) _ rfl) ?_
     refine GL_rd (wn_none rfl) rfl (rd_load rfl rfl Try.underlying5 rfl ((cell_of_cells (hp.get 1 rfl) _).trans (rec_bytePrev r (by omega)))) ?_
     refine GL_lit (L := (bys [(r.prev.1).getD i 0])) (wn_none rfl) rfl rfl Try.underlying39 ts5 tz5 rfl (by kernel_rfl) rfl rfl hp ?_
     intro g5 w hp
     refine GL_append (i := 1) (wn_none rfl) rfl rfl rfl rfl Try.underlying39 ti5 rfl (by decide) hp rfl (Sl.row (hp.get 0 rfl)) (bys_one _) (by omega) (by omega) ?_
     intro v6 w hp
     obtain ⟨Av6, cv6, rfl⟩ := row_shape (hp.get 1 rfl)
     rw [← bys_append] at hp
     refine GL_rd (v := .slice _ _ _) (wn_none rfl) rfl (rd_assign rfl rfl) ?_
     refine GL_nil ?_
     refine GW_region ?_
     refine GL_rd (v := .int _ _) (wn_none rfl) rfl (rd_move rfl rfl) ?_
     refine GL_rd (wn_none rfl) rfl (rd_bin rfl rfl rfl (bo_add64 (by omega))) ?_
     refine GL_rd (v := .int _ _) (wn_none rfl) rfl (rd_assign rfl rfl) ?_
     refine GL_nil ?_
     have hp := (((hp.front 2 rfl).front 2 rfl).take 2)
     exact ihL1 (i + 1, _, _, _, _) _ _ (by simp only []; omega) ⟨_, slots3 rfl rfl rfl, hp, by omega, by omega, by rw [hx, List.append_assoc, List.take_succ_eq_append_getD (by rw [r.prev.2]; omega)]⟩
    ·(try simp only [decide_eq_true_eq, decide_eq_false_iff_not, Bool.not_eq_true', Bool.not_eq_false', Bool.not_eq_eq_eq_not, Bool.not_true, Bool.not_false, Int.not_lt, Int.not_le] at hb2)
     obtain rfl : i = 32 := by omega
     refine GW_exit ?_
     refine GW_seq ?_
     refine GW_region ?_
     refine GL_rd (v := .slice _ _ _) (wn_none rfl) rfl (rd_move rfl rfl) ?_
     refine GL_rd (v := .slice _ _ _) (wn_none rfl) rfl (rd_assign rfl rfl) ?_
     refine GL_nil ?_
     refine GW_ret ?_
     have e : xs = saidR r := by rw [hx, List.take_of_length_le (by rw [r.prev.2]; omega)]; simp only [saidR, List.append_assoc]
     subst e
     have en := row_n (hp.get 0 rfl)
     subst en
     have hp := ((hp.front 0 rfl).take 1)
     exact ⟨_, res1 Try.results108 (rv_tmp (v := .slice _ _ _) rfl rfl), hp⟩
   ·have hp := (((hp.front 1 rfl).front 1 rfl).take 2)
    refine ⟨_, slots3 rfl rfl rfl, hp, Nat.zero_le _, by omega, by rw [hx, List.take_of_length_le (by rw [r.clip.2]; omega), List.take_zero, List.append_nil]⟩
 ·have hp := (((hp.front 6 rfl).front 4 rfl).take 2)
  refine ⟨_, slots3 rfl rfl rfl, hp, Nat.zero_le _, by omega, by rw [List.take_zero, List.append_nil]⟩

theorem aud_Sum (r : Rec) (w0 : World) (hz : r.actor.size ≤ 4294967296 ∧ r.reason.size ≤ 4294967296) : Does Try.prog 48 #[.agg ⟨recC r⟩] w0 fun v w' => v = .agg ⟨bys (sumR r).1⟩ ∧ Hp w0 [] w' [] := by
 refine does_of (l := [.agg ⟨recC r⟩]) Try.func48 (by kernel_rfl) rfl Try.ntmps48 rfl rfl ?_
 have hp := Hp.refl w0 []
 refine GW_seq ?_
 refine GW_region ?_
 refine GL_box (wn_none rfl) rfl rfl rfl rfl hp ?_
 intro g w hp
 refine GL_alloc (wn_none rfl) rfl rfl tz57 rfl hp ?_
 intro g2 w hp
 refine GL_nil ?_
 refine GW_seq ?_
 refine GW_region ?_
 refine GL_rd (wn_none rfl) rfl (rd_loadC rfl rfl Try.underlying59 rfl ts59 (hp.get 1 rfl) (recC_len _)) ?_
 refine GL_call (wn_none rfl) rfl rfl (aud_said r _ hz) rfl ?_
 intro vs w hk
 have hp := hp.comp hk
 obtain ⟨As, cs, rfl⟩ := row_shape (hp.get 0 rfl)
 refine GL_lit (L := [.slice As (saidR r).length cs]) (wn_none rfl) rfl rfl Try.underlying53 ts39 tz39 rfl (by kernel_rfl) rfl rfl hp ?_
 intro g3 w hp
 refine GL_call (wn_none rfl) rfl rfl (dig_One _ _ (saidR r) _ (Sl.row (hp.get 0 rfl)) (Sl.row (hp.get 1 rfl)) (by have := saidR_le r; omega)) rfl ?_
 rintro _ w ⟨rfl, hk⟩
 have hp := hp.comp hk
 refine GL_store (i := 2) (wn_none rfl) rfl rfl rfl rfl ts57 rfl (by rw [bys_length]; first | exact a32_len _ | rfl | simp [*]) (bys_one _) hp rfl (by first | exact Nat.le_of_ble_eq_true rfl | (simp only [bys_length, a32_len]; omega)) (splice_all _ _ (by first | (rw [bys_length, List.length_replicate]; first | exact a32_len _) | (rw [bys_length]; first | exact a32_len _) | (rw [bys_length]; rfl) | simp [bys_length, a32_len, *])) ?_
 intro w hp
 refine GL_nil ?_
 refine GW_ret ?_
 exact ⟨_, res1 Try.results48 (rv_cell rfl rfl Try.underlying57 rfl ts57 (by rw [bys_length]; exact (sumR r).2) (hp.get 2 rfl)), rfl, hp.mods⟩

theorem ref_audSum (r : Rec) (w0 : World) (hz : r.actor.size ≤ 4294967296 ∧ r.reason.size ≤ 4294967296) : Does Try.prog 49 #[.agg ⟨recC r⟩] w0 fun v w' => v = .agg ⟨bys (sumR r).1⟩ ∧ Hp w0 [] w' [] := by
 refine does_of (l := [.agg ⟨recC r⟩]) Try.func49 (by kernel_rfl) rfl Try.ntmps49 rfl rfl ?_
 have hp := Hp.refl w0 []
 refine GW_seq ?_
 refine GW_region ?_
 refine GL_box (wn_none rfl) rfl rfl rfl rfl hp ?_
 intro g w hp
 refine GL_alloc (wn_none rfl) rfl rfl tz57 rfl hp ?_
 intro g2 w hp
 refine GL_nil ?_
 refine GW_seq ?_
 refine GW_region ?_
 refine GL_rd (wn_none rfl) rfl (rd_loadC rfl rfl Try.underlying59 rfl ts59 (hp.get 1 rfl) (recC_len _)) ?_
 refine GL_call (wn_none rfl) rfl rfl (ref_audSaid r _ hz) rfl ?_
 intro vs w hk
 have hp := hp.comp hk
 refine GL_call (wn_none rfl) rfl rfl (ref_Sum _ _ (saidR r) _ (Sl.row (hp.get 0 rfl)) (by have := saidR_le r; omega)) rfl ?_
 rintro _ w ⟨rfl, hk⟩
 have hp := hp.comp hk
 refine GL_store (i := 1) (wn_none rfl) rfl rfl rfl rfl ts57 rfl (by rw [bys_length]; first | exact a32_len _ | rfl | simp [*]) (bys_one _) hp rfl (by first | exact Nat.le_of_ble_eq_true rfl | (simp only [bys_length, a32_len]; omega)) (splice_all _ _ (by first | (rw [bys_length, List.length_replicate]; first | exact a32_len _) | (rw [bys_length]; first | exact a32_len _) | (rw [bys_length]; rfl) | simp [bys_length, a32_len, *])) ?_
 intro w hp
 refine GL_nil ?_
 refine GW_ret ?_
 exact ⟨_, res1 Try.results49 (rv_cell rfl rfl Try.underlying57 rfl ts57 (by rw [bys_length]; exact (sumR r).2) (hp.get 1 rfl)), rfl, hp.mods⟩

theorem aud_Head (sv : Value) (m : Nat) (l : List Rec) (w0 : World) (hI : Sl w0 sv 100 m (l.flatMap recC)) : Does Try.prog 45 #[sv] w0 fun v w' => v = .agg ⟨bys (headR l).1⟩ ∧ Hp w0 [] w' [] := by
 obtain ⟨A, c, rfl⟩ := sl_shape hI
 have hlm := Sl.recs hI
 have hmle := hI.le
 refine does_of (l := [.slice A m c]) Try.func45 (by kernel_rfl) rfl Try.ntmps45 rfl rfl ?_
 have hp := Hp.refl w0 []
 refine GW_seq ?_
 refine GW_region ?_
 refine GL_alloc (wn_none rfl) rfl rfl tz57 rfl hp ?_
 intro g w hp
 refine GL_nil ?_
 refine GW_seq ?_
 refine GW_seq ?_
 refine GW_region ?_
 refine GL_rd (v := .slice _ _ _) (wn_none rfl) rfl (rd_move rfl rfl) ?_
 refine GL_rd (wn_none rfl) rfl (rd_len rfl rfl Try.underlying56) ?_
 refine GL_rd (wn_none rfl) rfl (rd_bin rfl rfl rfl bo_eql) ?_
 refine GL_nil ?_
 refine GW_cond rfl (fun hb => ?_) (fun hb => ?_)
 ·(try simp only [decide_eq_true_eq, decide_eq_false_iff_not, Bool.not_eq_true', Bool.not_eq_false', Bool.not_eq_eq_eq_not, Bool.not_true, Bool.not_false, Int.not_lt, Int.not_le] at hb)
  have hne : l.length = 0 := by omega
  refine GW_seq ?_
  refine GW_region ?_
  refine GL_rd (wn_none rfl) rfl (rd_buildA (L := (bys (List.replicate 32 0))) rfl tz57 Try.underlying57 ts5 (by kernel_rfl)) ?_
  refine GL_store (i := 0) (wn_none rfl) rfl rfl rfl rfl ts57 rfl rfl (bys_one _) hp rfl (by first | exact Nat.le_of_ble_eq_true rfl | (simp only [bys_length, a32_len]; omega)) (splice_all _ _ rfl) ?_
  intro w hp
  refine GL_nil ?_
  refine GW_ret ?_
  exact ⟨_, res1 Try.results45 (rv_cell rfl rfl Try.underlying57 rfl ts57 (by rw [bys_length]; first | rfl | exact a32_len _) (hp.get 0 rfl)), by first | (rw [headR_nil hne]; done) | (rw [headR_nil hne]; rfl), hp.mods⟩
 ·(try simp only [decide_eq_true_eq, decide_eq_false_iff_not, Bool.not_eq_true', Bool.not_eq_false', Bool.not_eq_eq_eq_not, Bool.not_true, Bool.not_false, Int.not_lt, Int.not_le] at hb)
  have hne : ¬ l.length = 0 := by omega
  obtain ⟨gA, bA, rfl⟩ := hI.addr (by rw [flat_length recC_len]; omega)
  refine GW_skip ?_
  refine GW_seq ?_
  refine GW_region ?_
  refine GL_rd (v := .slice _ _ _) (wn_none rfl) rfl (rd_move rfl rfl) ?_
  refine GL_rd (v := .slice _ _ _) (wn_none rfl) rfl (rd_move rfl rfl) ?_
  refine GL_rd (wn_none rfl) rfl (rd_len rfl rfl Try.underlying56) ?_
  refine GL_rd (wn_none rfl) rfl (rd_bin rfl rfl rfl (bo_sub64 (by omega))) ?_
  refine GL_rd (wn_none rfl) rfl (rd_indexS (j := (m - 1)) rfl rfl rfl Try.underlying56 ts59 (by omega) (by omega) _ rfl) ?_
  refine GL_rd (wn_none rfl) rfl (rd_field rfl rfl fa59_6 _ rfl) ?_
  refine GL_rd (wn_none rfl) rfl (rd_loadN (L := bys _) rfl rfl Try.underlying57 rfl ts57 (sum_len _) (fun jq u hj => by rw [Nat.add_assoc]; exact Sl.recE (hI.keep hp.mod) (m - 1) (by first | omega | assumption | exact Nat.lt_succ_self _) (rec_sum hj))) ?_
  refine GL_store (i := 0) (wn_none rfl) rfl rfl rfl rfl ts57 rfl (by rw [bys_length]; exact a32_len _) (bys_one _) hp rfl (by first | exact Nat.le_of_ble_eq_true rfl | (simp only [bys_length, a32_len]; omega)) (splice_all _ _ (by first | (rw [bys_length, List.length_replicate]; first | exact a32_len _) | (rw [bys_length]; first | exact a32_len _) | (rw [bys_length]; rfl) | simp [bys_length, a32_len, *])) ?_
  intro w hp
  refine GL_nil ?_
  refine GW_ret ?_
  exact ⟨_, res1 Try.results45 (rv_cell rfl rfl Try.underlying57 rfl ts57 (by rw [bys_length]; first | rfl | exact a32_len _) (hp.get 0 rfl)), by first | (rw [headR_last hne, hlm]; done) | (rw [headR_last hne, hlm]; rfl), hp.mods⟩

theorem ref_audHead (sv : Value) (m : Nat) (l : List Rec) (w0 : World) (hI : Sl w0 sv 100 m (l.flatMap recC)) : Does Try.prog 46 #[sv] w0 fun v w' => v = .agg ⟨bys (headR l).1⟩ ∧ Hp w0 [] w' [] := by
 obtain ⟨A, c, rfl⟩ := sl_shape hI
 have hlm := Sl.recs hI
 have hmle := hI.le
 refine does_of (l := [.slice A m c]) Try.func46 (by kernel_rfl) rfl Try.ntmps46 rfl rfl ?_
 have hp := Hp.refl w0 []
 refine GW_seq ?_
 refine GW_region ?_
 refine GL_alloc (wn_none rfl) rfl rfl tz57 rfl hp ?_
 intro g w hp
 refine GL_nil ?_
 refine GW_seq ?_
 refine GW_seq ?_
 refine GW_region ?_
 refine GL_rd (v := .slice _ _ _) (wn_none rfl) rfl (rd_move rfl rfl) ?_
 refine GL_rd (wn_none rfl) rfl (rd_len rfl rfl Try.underlying56) ?_
 refine GL_rd (wn_none rfl) rfl (rd_bin rfl rfl rfl bo_eql) ?_
 refine GL_nil ?_
 refine GW_cond rfl (fun hb => ?_) (fun hb => ?_)
 ·(try simp only [decide_eq_true_eq, decide_eq_false_iff_not, Bool.not_eq_true', Bool.not_eq_false', Bool.not_eq_eq_eq_not, Bool.not_true, Bool.not_false, Int.not_lt, Int.not_le] at hb)
  have hne : l.length = 0 := by omega
  refine GW_seq ?_
  refine GW_region ?_
  refine GL_rd (wn_none rfl) rfl (rd_buildA (L := (bys (List.replicate 32 0))) rfl tz57 Try.underlying57 ts5 (by kernel_rfl)) ?_
  refine GL_store (i := 0) (wn_none rfl) rfl rfl rfl rfl ts57 rfl rfl (bys_one _) hp rfl (by first | exact Nat.le_of_ble_eq_true rfl | (simp only [bys_length, a32_len]; omega)) (splice_all _ _ rfl) ?_
  intro w hp
  refine GL_nil ?_
  refine GW_ret ?_
  exact ⟨_, res1 Try.results46 (rv_cell rfl rfl Try.underlying57 rfl ts57 (by rw [bys_length]; first | rfl | exact a32_len _) (hp.get 0 rfl)), by first | (rw [headR_nil hne]; done) | (rw [headR_nil hne]; rfl), hp.mods⟩
 ·(try simp only [decide_eq_true_eq, decide_eq_false_iff_not, Bool.not_eq_true', Bool.not_eq_false', Bool.not_eq_eq_eq_not, Bool.not_true, Bool.not_false, Int.not_lt, Int.not_le] at hb)
  have hne : ¬ l.length = 0 := by omega
  obtain ⟨gA, bA, rfl⟩ := hI.addr (by rw [flat_length recC_len]; omega)
  refine GW_skip ?_
  refine GW_seq ?_
  refine GW_region ?_
  refine GL_rd (v := .slice _ _ _) (wn_none rfl) rfl (rd_move rfl rfl) ?_
  refine GL_rd (v := .slice _ _ _) (wn_none rfl) rfl (rd_move rfl rfl) ?_
  refine GL_rd (wn_none rfl) rfl (rd_len rfl rfl Try.underlying56) ?_
  refine GL_rd (wn_none rfl) rfl (rd_bin rfl rfl rfl (bo_sub64 (by omega))) ?_
  refine GL_rd (wn_none rfl) rfl (rd_indexS (j := (m - 1)) rfl rfl rfl Try.underlying56 ts59 (by omega) (by omega) _ rfl) ?_
  refine GL_rd (wn_none rfl) rfl (rd_field rfl rfl fa59_6 _ rfl) ?_
  refine GL_rd (wn_none rfl) rfl (rd_loadN (L := bys _) rfl rfl Try.underlying57 rfl ts57 (sum_len _) (fun jq u hj => by rw [Nat.add_assoc]; exact Sl.recE (hI.keep hp.mod) (m - 1) (by first | omega | assumption | exact Nat.lt_succ_self _) (rec_sum hj))) ?_
  refine GL_store (i := 0) (wn_none rfl) rfl rfl rfl rfl ts57 rfl (by rw [bys_length]; exact a32_len _) (bys_one _) hp rfl (by first | exact Nat.le_of_ble_eq_true rfl | (simp only [bys_length, a32_len]; omega)) (splice_all _ _ (by first | (rw [bys_length, List.length_replicate]; first | exact a32_len _) | (rw [bys_length]; first | exact a32_len _) | (rw [bys_length]; rfl) | simp [bys_length, a32_len, *])) ?_
  intro w hp
  refine GL_nil ?_
  refine GW_ret ?_
  exact ⟨_, res1 Try.results46 (rv_cell rfl rfl Try.underlying57 rfl ts57 (by rw [bys_length]; first | rfl | exact a32_len _) (hp.get 0 rfl)), by first | (rw [headR_last hne, hlm]; done) | (rw [headR_last hne, hlm]; rfl), hp.mods⟩

theorem aud_Next (sv : Value) (m : Nat) (l : List Rec) (r : Rec) (w0 : World) (hI : Sl w0 sv 100 m (l.flatMap recC)) (hz : r.actor.size ≤ 4294967296 ∧ r.reason.size ≤ 4294967296) : Does Try.prog 36 #[sv, .agg ⟨recC r⟩] w0 fun v w' => v = .tuple #[.agg ⟨recC (nextV l r)⟩, .int .i64 (checkR r)] ∧ Hp w0 [] w' [] := by
 obtain ⟨A, c, rfl⟩ := sl_shape hI
 have hlm := Sl.recs hI
 have hmle := hI.le
 refine does_of (l := [.slice A m c, .agg ⟨recC r⟩]) Try.func36 (by kernel_rfl) rfl Try.ntmps36 rfl rfl ?_
 have hp := Hp.refl w0 []
 refine GW_seq ?_
 refine GW_region ?_
 refine GL_box (wn_none rfl) rfl rfl rfl rfl hp ?_
 intro g w hp
 refine GL_alloc (wn_none rfl) rfl rfl tz59 rfl hp ?_
 intro g2 w hp
 refine GL_rd (v := .int _ _) (wn_none rfl) rfl (rd_assign rfl rfl) ?_
 refine GL_nil ?_
 refine GW_seq ?_
 refine GW_seq ?_
 refine GW_region ?_
 refine GL_rd (wn_none rfl) rfl (rd_loadC rfl rfl Try.underlying59 rfl ts59 (hp.get 1 rfl) (recC_len _)) ?_
 refine GL_call (wn_none rfl) rfl rfl (aud_Check r _ hz) rfl ?_
 rintro _ w ⟨rfl, hk⟩
 have hp := hp.comp hk
 refine GL_rd (v := .int _ _) (wn_none rfl) rfl (rd_assign rfl rfl) ?_
 refine GL_nil ?_
 refine GW_seq ?_
 refine GW_region ?_
 refine GL_rd (v := .int _ _) (wn_none rfl) rfl (rd_move rfl rfl) ?_
 refine GL_rd (wn_none rfl) rfl (rd_bin rfl rfl rfl bo_neq) ?_
 refine GL_nil ?_
 refine GW_cond rfl (fun hb => ?_) (fun hb => ?_)
 ·(try simp only [decide_eq_true_eq, decide_eq_false_iff_not, Bool.not_eq_true', Bool.not_eq_false', Bool.not_eq_eq_eq_not, Bool.not_true, Bool.not_false, Int.not_lt, Int.not_le] at hb)
  have hc : ¬ checkR r = 0 := hb
  refine GW_seq ?_
  refine GW_region ?_
  refine GL_rd (wn_none rfl) rfl (rd_buildS (L := (recC recZ)) rfl tz59 pl59 (by kernel_rfl)) ?_
  refine GL_rd (v := .int _ _) (wn_none rfl) rfl (rd_move rfl rfl) ?_
  refine GL_store (i := 0) (wn_none rfl) rfl rfl rfl rfl ts59 rfl (recC_len _) (recC_one _) hp rfl (by first | exact Nat.le_of_ble_eq_true rfl | (rw [recC_len]; decide)) (splice_all _ _ (by first | rw [recC_len, recC_len] | (rw [recC_len]; rfl))) ?_
  intro w hp
  refine GL_rd (v := .int _ _) (wn_none rfl) rfl (rd_assign rfl rfl) ?_
  refine GL_nil ?_
  refine GW_ret ?_
  exact ⟨_, res2 Try.results36 (rv_cell rfl rfl Try.underlying59 rfl ts59 (recC_len _) (hp.get 0 rfl)) (rv_tmp (v := .int _ _) rfl rfl), by first | (rw [nextV_no hc]; done) | (rw [nextV_no hc]; rfl), hp.mods⟩
 ·(try simp only [decide_eq_true_eq, decide_eq_false_iff_not, Bool.not_eq_true', Bool.not_eq_false', Bool.not_eq_eq_eq_not, Bool.not_true, Bool.not_false, Int.not_lt, Int.not_le] at hb)
  have hc : checkR r = 0 := hb
  refine GW_skip ?_
  refine GW_seq ?_
  refine GW_region ?_
  refine GL_rd (v := .slice _ _ _) (wn_none rfl) rfl (rd_move rfl rfl) ?_
  refine GL_call (wn_none rfl) rfl rfl (aud_Head _ _ l _ (hI.keep hp.mod)) rfl ?_
  rintro _ w ⟨rfl, hk⟩
  have hp := hp.comp hk
  refine GL_rd (wn_none rfl) rfl (rd_field rfl rfl fa59_5 _ rfl) ?_
  refine GL_store (i := 1) (wn_none rfl) rfl rfl rfl rfl ts57 rfl (by rw [bys_length]; exact a32_len _) (bys_one _) hp rfl (by rw [recC_len]; decide) (rec_setPrev _ _) ?_
  intro w hp
  refine GL_nil ?_
  refine GW_seq ?_
  refine GW_region ?_
  refine GL_rd (wn_none rfl) rfl (rd_loadC rfl rfl Try.underlying59 rfl ts59 (hp.get 1 rfl) (recC_len _)) ?_
  refine GL_call (wn_none rfl) rfl rfl (aud_Sum { r with prev := headR l } _ hz) rfl ?_
  rintro _ w ⟨rfl, hk⟩
  have hp := hp.comp hk
  refine GL_rd (wn_none rfl) rfl (rd_field rfl rfl fa59_6 _ rfl) ?_
  refine GL_store (i := 1) (wn_none rfl) rfl rfl rfl rfl ts57 rfl (by rw [bys_length]; exact a32_len _) (bys_one _) hp rfl (by rw [recC_len]; decide) (rec_setSum _ _) ?_
  intro w hp
  refine GL_nil ?_
  refine GW_seq ?_
  refine GW_region ?_
  refine GL_rd (wn_none rfl) rfl (rd_loadC rfl rfl Try.underlying59 rfl ts59 (hp.get 1 rfl) (recC_len _)) ?_
  refine GL_store (i := 0) (wn_none rfl) rfl rfl rfl rfl ts59 rfl (recC_len _) (recC_one _) hp rfl (by first | exact Nat.le_of_ble_eq_true rfl | (rw [recC_len]; decide)) (splice_all _ _ (by first | rw [recC_len, recC_len] | (rw [recC_len]; rfl))) ?_
  intro w hp
  refine GL_rd (v := .int _ _) (wn_none rfl) rfl (rd_assign rfl rfl) ?_
  refine GL_nil ?_
  refine GW_ret ?_
  exact ⟨_, res2 Try.results36 (rv_cell rfl rfl Try.underlying59 rfl ts59 (recC_len _) (hp.get 0 rfl)) (rv_tmp (v := .int _ _) rfl rfl), by first | (rw [nextV_yes hc, hc]; done) | (rw [nextV_yes hc, hc]; rfl), hp.mods⟩

theorem ref_audNext (sv : Value) (m : Nat) (l : List Rec) (r : Rec) (w0 : World) (hI : Sl w0 sv 100 m (l.flatMap recC)) (hz : r.actor.size ≤ 4294967296 ∧ r.reason.size ≤ 4294967296) : Does Try.prog 37 #[sv, .agg ⟨recC r⟩] w0 fun v w' => v = .tuple #[.agg ⟨recC (nextV l r)⟩, .int .i64 (checkR r)] ∧ Hp w0 [] w' [] := by
 obtain ⟨A, c, rfl⟩ := sl_shape hI
 have hlm := Sl.recs hI
 have hmle := hI.le
 refine does_of (l := [.slice A m c, .agg ⟨recC r⟩]) Try.func37 (by kernel_rfl) rfl Try.ntmps37 rfl rfl ?_
 have hp := Hp.refl w0 []
 refine GW_seq ?_
 refine GW_region ?_
 refine GL_box (wn_none rfl) rfl rfl rfl rfl hp ?_
 intro g w hp
 refine GL_alloc (wn_none rfl) rfl rfl tz59 rfl hp ?_
 intro g2 w hp
 refine GL_rd (v := .int _ _) (wn_none rfl) rfl (rd_assign rfl rfl) ?_
 refine GL_nil ?_
 refine GW_seq ?_
 refine GW_seq ?_
 refine GW_region ?_
 refine GL_rd (wn_none rfl) rfl (rd_loadC rfl rfl Try.underlying59 rfl ts59 (hp.get 1 rfl) (recC_len _)) ?_
 refine GL_call (wn_none rfl) rfl rfl (ref_audCheck r _ hz) rfl ?_
 rintro _ w ⟨rfl, hk⟩
 have hp := hp.comp hk
 refine GL_rd (v := .int _ _) (wn_none rfl) rfl (rd_assign rfl rfl) ?_
 refine GL_nil ?_
 refine GW_seq ?_
 refine GW_region ?_
 refine GL_rd (v := .int _ _) (wn_none rfl) rfl (rd_move rfl rfl) ?_
 refine GL_rd (wn_none rfl) rfl (rd_bin rfl rfl rfl bo_neq) ?_
 refine GL_nil ?_
 refine GW_cond rfl (fun hb => ?_) (fun hb => ?_)
 ·(try simp only [decide_eq_true_eq, decide_eq_false_iff_not, Bool.not_eq_true', Bool.not_eq_false', Bool.not_eq_eq_eq_not, Bool.not_true, Bool.not_false, Int.not_lt, Int.not_le] at hb)
  have hc : ¬ checkR r = 0 := hb
  refine GW_seq ?_
  refine GW_region ?_
  refine GL_rd (wn_none rfl) rfl (rd_buildS (L := (recC recZ)) rfl tz59 pl59 (by kernel_rfl)) ?_
  refine GL_rd (v := .int _ _) (wn_none rfl) rfl (rd_move rfl rfl) ?_
  refine GL_store (i := 0) (wn_none rfl) rfl rfl rfl rfl ts59 rfl (recC_len _) (recC_one _) hp rfl (by first | exact Nat.le_of_ble_eq_true rfl | (rw [recC_len]; decide)) (splice_all _ _ (by first | rw [recC_len, recC_len] | (rw [recC_len]; rfl))) ?_
  intro w hp
  refine GL_rd (v := .int _ _) (wn_none rfl) rfl (rd_assign rfl rfl) ?_
  refine GL_nil ?_
  refine GW_ret ?_
  exact ⟨_, res2 Try.results37 (rv_cell rfl rfl Try.underlying59 rfl ts59 (recC_len _) (hp.get 0 rfl)) (rv_tmp (v := .int _ _) rfl rfl), by first | (rw [nextV_no hc]; done) | (rw [nextV_no hc]; rfl), hp.mods⟩
 ·(try simp only [decide_eq_true_eq, decide_eq_false_iff_not, Bool.not_eq_true', Bool.not_eq_false', Bool.not_eq_eq_eq_not, Bool.not_true, Bool.not_false, Int.not_lt, Int.not_le] at hb)
  have hc : checkR r = 0 := hb
  refine GW_skip ?_
  refine GW_seq ?_
  refine GW_region ?_
  refine GL_rd (wn_none rfl) rfl (rd_loadC rfl rfl Try.underlying59 rfl ts59 (hp.get 1 rfl) (recC_len _)) ?_
  refine GL_alloc (wn_none rfl) rfl rfl tz59 rfl hp ?_
  intro g3 w hp
  refine GL_store (i := 0) (wn_none rfl) rfl rfl rfl rfl ts59 rfl (recC_len _) (recC_one _) hp rfl (by first | exact Nat.le_of_ble_eq_true rfl | (rw [recC_len]; decide)) (splice_all _ _ (by first | rw [recC_len, recC_len] | (rw [recC_len]; rfl))) ?_
  intro w hp
  refine GL_nil ?_
  refine GW_seq ?_
  refine GW_region ?_
  refine GL_rd (v := .slice _ _ _) (wn_none rfl) rfl (rd_move rfl rfl) ?_
  refine GL_call (wn_none rfl) rfl rfl (ref_audHead _ _ l _ (hI.keep hp.mod)) rfl ?_
  rintro _ w ⟨rfl, hk⟩
  have hp := hp.comp hk
  refine GL_rd (wn_none rfl) rfl (rd_field rfl rfl fa59_5 _ rfl) ?_
  refine GL_store (i := 0) (wn_none rfl) rfl rfl rfl rfl ts57 rfl (by rw [bys_length]; exact a32_len _) (bys_one _) hp rfl (by rw [recC_len]; decide) (rec_setPrev _ _) ?_
  intro w hp
  refine GL_nil ?_
  refine GW_seq ?_
  refine GW_region ?_
  refine GL_rd (wn_none rfl) rfl (rd_loadC rfl rfl Try.underlying59 rfl ts59 (hp.get 0 rfl) (recC_len _)) ?_
  refine GL_call (wn_none rfl) rfl rfl (ref_audSum { r with prev := headR l } _ hz) rfl ?_
  rintro _ w ⟨rfl, hk⟩
  have hp := hp.comp hk
  refine GL_rd (wn_none rfl) rfl (rd_field rfl rfl fa59_6 _ rfl) ?_
  refine GL_store (i := 0) (wn_none rfl) rfl rfl rfl rfl ts57 rfl (by rw [bys_length]; exact a32_len _) (bys_one _) hp rfl (by rw [recC_len]; decide) (rec_setSum _ _) ?_
  intro w hp
  refine GL_nil ?_
  refine GW_seq ?_
  refine GW_region ?_
  refine GL_rd (wn_none rfl) rfl (rd_loadC rfl rfl Try.underlying59 rfl ts59 (hp.get 0 rfl) (recC_len _)) ?_
  refine GL_store (i := 1) (wn_none rfl) rfl rfl rfl rfl ts59 rfl (recC_len _) (recC_one _) hp rfl (by first | exact Nat.le_of_ble_eq_true rfl | (rw [recC_len]; decide)) (splice_all _ _ (by first | rw [recC_len, recC_len] | (rw [recC_len]; rfl))) ?_
  intro w hp
  refine GL_rd (v := .int _ _) (wn_none rfl) rfl (rd_assign rfl rfl) ?_
  refine GL_nil ?_
  refine GW_ret ?_
  exact ⟨_, res2 Try.results37 (rv_cell rfl rfl Try.underlying59 rfl ts59 (recC_len _) (hp.get 1 rfl)) (rv_tmp (v := .int _ _) rfl rfl), by first | (rw [nextV_yes hc, hc]; done) | (rw [nextV_yes hc, hc]; rfl), hp.mods⟩

theorem aud_Verify (sv : Value) (m : Nat) (l : List Rec) (w0 : World) (hI : Sl w0 sv 100 m (l.flatMap recC)) (hz : ∀ x ∈ l, x.actor.size ≤ 4294967296 ∧ x.reason.size ≤ 4294967296) : Does Try.prog 51 #[sv] w0 fun v w' => v = .int .i64 (verR l) ∧ Hp w0 [] w' [] := by
 obtain ⟨A, c, rfl⟩ := sl_shape hI
 have hlm := Sl.recs hI
 have hmle := hI.le
 refine does_of (l := [.slice A m c]) Try.func51 (by kernel_rfl) rfl Try.ntmps51 rfl rfl ?_
 have hp := Hp.refl w0 []
 refine GW_seq ?_
 refine GW_region ?_
 refine GL_rd (v := .int _ _) (wn_none rfl) rfl (rd_assign rfl rfl) ?_
 refine GL_nil ?_
 refine GW_seq ?_
 refine GW_seq ?_
 refine GW_region ?_
 refine GL_rd (v := .slice _ _ _) (wn_none rfl) rfl (rd_move rfl rfl) ?_
 refine GL_rd (wn_none rfl) rfl (rd_len rfl rfl Try.underlying56) ?_
 refine GL_rd (v := .int _ _) (wn_none rfl) rfl (rd_move rfl rfl) ?_
 refine GL_nil ?_
 refine GW_block ?_
 refine GW_loop ?_
 refine Lp_ind (α := Nat) (fun a_0 f_0 w' => match a_0 with | i => ∃ fz, f_0 = (upd (upd (upd (upd fz 0 (.slice A m c)) 5 (.slice A m c)) 6 (.int .i64 (m : Int))) 7 (.int .i64 (i : Int))) ∧ Hp w0 [] w' [] ∧ (i ≤ m) ∧ (∀ j, j < i → okR l j = true)) (fun a_0 => match a_0 with | i => m - i) ?_ 0 _ _ ?_
 ·rintro i f wz ⟨fz, rfl, hp, hi0, hok⟩ ihL0
  refine Lp_round ?_
  refine GW_seq ?_
  refine GW_region ?_
  refine GL_rd (wn_none rfl) rfl (rd_bin rfl rfl rfl bo_lss) ?_
  refine GL_nil ?_
  refine GW_seq ?_
  refine GW_cond rfl (fun hb => ?_) (fun hb => ?_)
  ·(try simp only [decide_eq_true_eq, decide_eq_false_iff_not, Bool.not_eq_true', Bool.not_eq_false', Bool.not_eq_eq_eq_not, Bool.not_true, Bool.not_false, Int.not_lt, Int.not_le] at hb)
   obtain ⟨gA, bA, rfl⟩ := hI.addr (by rw [flat_length recC_len]; omega)
   refine GW_skip ?_
   refine GW_seq ?_
   refine GW_block ?_
   refine GW_seq ?_
   refine GW_region ?_
   refine GL_rd (v := .int _ _) (wn_none rfl) rfl (rd_move rfl rfl) ?_
   refine GL_rd (wn_none rfl) rfl (rd_indexS (j := i) rfl rfl rfl Try.underlying56 ts59 rfl (by omega) _ rfl) ?_
   refine GL_rd (wn_none rfl) rfl (rd_loadN (L := recC _) rfl rfl Try.underlying59 rfl ts59 (recC_len _) (fun jq u hj => Sl.recE (hI.keep hp.mod) i (by first | omega | assumption | exact Nat.lt_succ_self _) hj)) ?_
   refine GL_alloc (wn_none rfl) rfl rfl tz59 rfl hp ?_
   intro g w hp
   refine GL_rd (v := .int _ _) (wn_none rfl) rfl (rd_assign rfl rfl) ?_
   refine GL_store (i := 0) (wn_none rfl) rfl rfl rfl rfl ts59 rfl (recC_len _) (recC_one _) hp rfl (by first | exact Nat.le_of_ble_eq_true rfl | (rw [recC_len]; decide)) (splice_all _ _ (by first | rw [recC_len, recC_len] | (rw [recC_len]; rfl))) ?_
   intro w hp
   refine GL_nil ?_
   refine GW_seq ?_
   refine GW_seq ?_
   refine GW_drawnK 19 (.one 0 true (.one 1 false (.one 2 true (.one 3 true (.one 4 true (.one 5 true (.one 6 true (.one 7 true (.one 8 true (.one 9 false (.one 10 true (.one 11 true (.one 12 true (.one 13 true (.one 14 true (.one 15 true (.one 16 false (.one 17 true (.one 18 true .nil))))))))))))))))))) mixed (by kernel_rfl) hp (fun _ h => h) fun w hp => ?_
   have hpS := hp
   refine GO_rd rfl rfl (wn_none rfl) rfl hpS (fun w hp => (rd_loadC rfl rfl Try.underlying59 rfl ts59 (hp.get 0 rfl) (recC_len _))) ?_
   refine GO_of_GL rfl ?_
   refine GL_call (wn_none rfl) rfl rfl (aud_Check (recAt l i) _ (hz _ (recAt_mem (by omega)))) rfl ?_
   rintro _ w ⟨rfl, hk⟩
   have hp := hp.comp hk
   have hpS2 := hp
   refine GL_nil ⟨fun _ => hpS2, ?_⟩
   refine GO_rd rfl rfl (wn_none rfl) rfl hpS2 (fun w hp => (rd_bin rfl rfl rfl bo_neq)) ?_
   refine GO_rdT (v := .bool _) rfl (wn_none rfl) rfl (fun w => (rd_move rfl rfl)) ?_
   refine GO_split (t := 15) (b := _) rfl ?_ ?_
   ·intro hb2; (try simp only [decide_eq_true_eq, decide_eq_false_iff_not, Bool.not_eq_true', Bool.not_eq_false', Bool.not_eq_eq_eq_not, Bool.not_true, Bool.not_false, Int.not_lt, Int.not_le] at hb2)
    refine GO_pass rfl (nw_off rfl rfl rfl rfl rfl) rfl ?_
    refine GO_pass rfl (nw_off rfl rfl rfl rfl rfl) rfl ?_
    refine GO_pass rfl (nw_off rfl rfl rfl rfl rfl) rfl ?_
    refine GO_pass rfl (nw_off rfl rfl rfl rfl rfl) rfl ?_
    refine GO_pass rfl (nw_off rfl rfl rfl rfl rfl) rfl ?_
    refine GO_of_GL rfl ?_
    refine GL_pass (nw_off rfl rfl rfl rfl rfl) rfl (GL_nil ⟨fun _ => hpS2, ?_⟩)
    refine GO_pass rfl (nw_off rfl rfl rfl rfl rfl) rfl ?_
    refine GO_rdT (v := .bool _) rfl (wn_none rfl) rfl (fun w => (rd_pickT rfl rfl rfl)) ?_
    refine GO_rdT (v := .bool _) rfl (wn_none rfl) rfl (fun w => (rd_move rfl rfl)) ?_
    refine GO_pass rfl (nw_off rfl rfl rfl rfl rfl) rfl ?_
    refine GO_pass rfl (nw_off rfl rfl rfl rfl rfl) rfl ?_
    refine GO_pass rfl (nw_off rfl rfl rfl rfl rfl) rfl ?_
    refine GO_of_GL rfl ?_
    refine GL_pass (nw_off rfl rfl rfl rfl rfl) rfl (GL_nil ⟨fun _ => hpS2, ?_⟩)
    refine GO_pass rfl (nw_off rfl rfl rfl rfl rfl) rfl ?_
    refine GO_rdT (v := .bool _) rfl (wn_none rfl) rfl (fun w => (rd_pickT rfl rfl rfl)) ?_
    refine GO_nil ?_
    refine GW_true rfl ?_
    refine GW_seq ?_
    refine GW_region ?_
    refine GL_rd (v := .int _ _) (wn_none rfl) rfl (rd_move rfl rfl) ?_
    refine GL_rd (v := .int _ _) (wn_none rfl) rfl (rd_assign rfl rfl) ?_
    refine GL_nil ?_
    refine GW_ret ?_
    have ev : verR l = (i : Int) := verR_at (by omega) hok (okR_no (by rintro ⟨q1, q2, q3, q4⟩; first | exact absurd q1 (by assumption) | exact absurd (congrArg Subtype.val q2) (by assumption) | exact absurd (congrArg Subtype.val q3) (by assumption) | (have := q4 (by omega); omega)))
    exact ⟨_, res1 Try.results51 (rv_tmp (v := .int _ _) rfl rfl), by rw [ev], hp.mods⟩
   ·intro hb2; (try simp only [decide_eq_true_eq, decide_eq_false_iff_not, Bool.not_eq_true', Bool.not_eq_false', Bool.not_eq_eq_eq_not, Bool.not_true, Bool.not_false, Int.not_lt, Int.not_le] at hb2)
    have q1 := hb2
    refine GO_rdT rfl (wn_on rfl rfl rfl rfl) rfl (fun w => (rd_field rfl rfl fa59_5 _ rfl)) ?_
    refine GO_rd rfl rfl (wn_on rfl rfl rfl rfl) rfl hpS2 (fun w hp => (rd_loadN (L := bys _) rfl rfl Try.underlying57 rfl ts57 (prev_len _) (fun jq u hj => (cell_of_cells (hp.get 0 rfl) _).trans (rec_prev hj)))) ?_
    refine GO_rdT (v := .slice _ _ _) rfl (wn_on rfl rfl rfl rfl) rfl (fun w => (rd_move rfl rfl)) ?_
    refine GO_rdT (v := .int _ _) rfl (wn_on rfl rfl rfl rfl) rfl (fun w => (rd_move rfl rfl)) ?_
    refine GO_rd rfl rfl (wn_on rfl rfl rfl rfl) rfl hpS2 (fun w hp => (rd_sliceS (lo := 0) (hi := i) rfl rfl Try.underlying56 ts59 at_none (at_some rfl rfl) (by omega) (by have := (Sl.cap hI).1; omega))) ?_
    refine GO_of_GL rfl ?_
    refine GL_call (wn_on rfl rfl rfl rfl) rfl rfl (aud_Head _ _ (l.take i) _ (Sl.cutE recC_len (hI.keep hp.mod) 0 i (Nat.zero_le _) (by omega))) rfl ?_
    rintro _ w ⟨rfl, hk⟩
    have hp := hp.comp hk
    have hpS3 := hp
    refine GL_nil ⟨fun _ => hpS3, ?_⟩
    refine GO_rd rfl rfl (wn_on rfl rfl rfl rfl) rfl hpS3 (fun w hp => (rd_bin rfl rfl rfl (bo_arrB Try.underlying57 Try.underlying5 ts5 (by kernel_rfl) (by first | exact a32_len _ | simp [*]) (by first | exact a32_len _ | simp [*])).2)) ?_
    refine GO_rdT (v := .bool _) rfl (wn_none rfl) rfl (fun w => (rd_pickF rfl rfl rfl)) ?_
    refine GO_rdT (v := .bool _) rfl (wn_none rfl) rfl (fun w => (rd_move rfl rfl)) ?_
    refine GO_split (t := 24) (b := _) rfl ?_ ?_
    ·intro hb3; (try simp only [decide_eq_true_eq, decide_eq_false_iff_not, Bool.not_eq_true', Bool.not_eq_false', Bool.not_eq_eq_eq_not, Bool.not_true, Bool.not_false, Int.not_lt, Int.not_le] at hb3)
     refine GO_pass rfl (nw_off rfl rfl rfl rfl rfl) rfl ?_
     refine GO_pass rfl (nw_off rfl rfl rfl rfl rfl) rfl ?_
     refine GO_pass rfl (nw_off rfl rfl rfl rfl rfl) rfl ?_
     refine GO_of_GL rfl ?_
     refine GL_pass (nw_off rfl rfl rfl rfl rfl) rfl (GL_nil ⟨fun _ => hpS3, ?_⟩)
     refine GO_pass rfl (nw_off rfl rfl rfl rfl rfl) rfl ?_
     refine GO_rdT (v := .bool _) rfl (wn_none rfl) rfl (fun w => (rd_pickT rfl rfl rfl)) ?_
     refine GO_nil ?_
     refine GW_true rfl ?_
     refine GW_seq ?_
     refine GW_region ?_
     refine GL_rd (v := .int _ _) (wn_none rfl) rfl (rd_move rfl rfl) ?_
     refine GL_rd (v := .int _ _) (wn_none rfl) rfl (rd_assign rfl rfl) ?_
     refine GL_nil ?_
     refine GW_ret ?_
     have ev : verR l = (i : Int) := verR_at (by omega) hok (okR_no (by rintro ⟨q1, q2, q3, q4⟩; first | exact absurd q1 (by assumption) | exact absurd (congrArg Subtype.val q2) (by assumption) | exact absurd (congrArg Subtype.val q3) (by assumption) | (have := q4 (by omega); omega)))
     exact ⟨_, res1 Try.results51 (rv_tmp (v := .int _ _) rfl rfl), by rw [ev], hp.mods⟩
    ·intro hb3; (try simp only [decide_eq_true_eq, decide_eq_false_iff_not, Bool.not_eq_true', Bool.not_eq_false', Bool.not_eq_eq_eq_not, Bool.not_true, Bool.not_false, Int.not_lt, Int.not_le] at hb3)
     have q2 := hb3
     refine GO_rdT rfl (wn_on rfl rfl rfl rfl) rfl (fun w => (rd_field rfl rfl fa59_6 _ rfl)) ?_
     refine GO_rd rfl rfl (wn_on rfl rfl rfl rfl) rfl hpS3 (fun w hp => (rd_loadN (L := bys _) rfl rfl Try.underlying57 rfl ts57 (sum_len _) (fun jq u hj => (cell_of_cells (hp.get 0 rfl) _).trans (rec_sum hj)))) ?_
     refine GO_rd rfl rfl (wn_on rfl rfl rfl rfl) rfl hpS3 (fun w hp => (rd_loadC rfl rfl Try.underlying59 rfl ts59 (hp.get 0 rfl) (recC_len _))) ?_
     refine GO_of_GL rfl ?_
     refine GL_call (wn_on rfl rfl rfl rfl) rfl rfl (aud_Sum (recAt l i) _ (hz _ (recAt_mem (by omega)))) rfl ?_
     rintro _ w ⟨rfl, hk⟩
     have hp := hp.comp hk
     have hpS4 := hp
     refine GL_nil ⟨fun _ => hpS4, ?_⟩
     refine GO_rd rfl rfl (wn_on rfl rfl rfl rfl) rfl hpS4 (fun w hp => (rd_bin rfl rfl rfl (bo_arrB Try.underlying57 Try.underlying5 ts5 (by kernel_rfl) (by first | exact a32_len _ | simp [*]) (by first | exact a32_len _ | simp [*])).2)) ?_
     refine GO_rdT (v := .bool _) rfl (wn_none rfl) rfl (fun w => (rd_pickF rfl rfl rfl)) ?_
     refine GO_nil ?_
     refine GW_cond rfl (fun hb4 => ?_) (fun hb4 => ?_)
     ·(try simp only [decide_eq_true_eq, decide_eq_false_iff_not, Bool.not_eq_true', Bool.not_eq_false', Bool.not_eq_eq_eq_not, Bool.not_true, Bool.not_false, Int.not_lt, Int.not_le] at hb4)
      refine GW_seq ?_
      refine GW_region ?_
      refine GL_rd (v := .int _ _) (wn_none rfl) rfl (rd_move rfl rfl) ?_
      refine GL_rd (v := .int _ _) (wn_none rfl) rfl (rd_assign rfl rfl) ?_
      refine GL_nil ?_
      refine GW_ret ?_
      have ev : verR l = (i : Int) := verR_at (by omega) hok (okR_no (by rintro ⟨q1, q2, q3, q4⟩; first | exact absurd q1 (by assumption) | exact absurd (congrArg Subtype.val q2) (by assumption) | exact absurd (congrArg Subtype.val q3) (by assumption) | (have := q4 (by omega); omega)))
      exact ⟨_, res1 Try.results51 (rv_tmp (v := .int _ _) rfl rfl), by rw [ev], hp.mods⟩
     ·(try simp only [decide_eq_true_eq, decide_eq_false_iff_not, Bool.not_eq_true', Bool.not_eq_false', Bool.not_eq_eq_eq_not, Bool.not_true, Bool.not_false, Int.not_lt, Int.not_le] at hb4)
      have q3 := hb4
      refine GW_skip ?_
      refine GW_seq ?_
      refine GW_drawnK 13 (.one 0 true (.one 1 true (.one 2 true (.one 3 true (.one 4 true (.one 5 true (.one 6 true (.one 7 true (.one 8 true (.one 9 true (.one 10 true (.one 11 true (.one 12 true .nil))))))))))))) mixed (by kernel_rfl) hp (fun _ h => h) fun w hp => ?_
      have hpS5 := hp
      refine GO_rdT (v := .int _ _) rfl (wn_none rfl) rfl (fun w => (rd_move rfl rfl)) ?_
      refine GO_rd rfl rfl (wn_none rfl) rfl hpS5 (fun w hp => (rd_bin rfl rfl rfl bo_gtr)) ?_
      refine GO_rdT (v := .bool _) rfl (wn_none rfl) rfl (fun w => (rd_move rfl rfl)) ?_
      refine GO_split (t := 34) (b := _) rfl ?_ ?_
      ·intro hb5; (try simp only [decide_eq_true_eq, decide_eq_false_iff_not, Bool.not_eq_true', Bool.not_eq_false', Bool.not_eq_eq_eq_not, Bool.not_true, Bool.not_false, Int.not_lt, Int.not_le] at hb5)
       refine GO_rdT rfl (wn_on rfl rfl rfl rfl) rfl (fun w => (rd_field rfl rfl fa59_1 _ rfl)) ?_
       refine GO_rd rfl rfl (wn_on rfl rfl rfl rfl) rfl hpS5 (fun w hp => (rd_load rfl rfl Try.underlying3 rfl ((cell_of_cells (hp.get 0 rfl) _).trans (rec_time _)))) ?_
       refine GO_rdT (v := .slice _ _ _) rfl (wn_on rfl rfl rfl rfl) rfl (fun w => (rd_move rfl rfl)) ?_
       refine GO_rdT (v := .int _ _) rfl (wn_on rfl rfl rfl rfl) rfl (fun w => (rd_move rfl rfl)) ?_
       refine GO_rd rfl rfl (wn_on rfl rfl rfl rfl) rfl hpS5 (fun w hp => (rd_bin rfl rfl rfl (bo_sub64 (by omega)))) ?_
       refine GO_rdT rfl (wn_on rfl rfl rfl rfl) rfl (fun w => (rd_indexS (j := (i - 1)) rfl rfl rfl Try.underlying56 ts59 (by omega) (by omega) _ rfl)) ?_
       refine GO_rdT rfl (wn_on rfl rfl rfl rfl) rfl (fun w => (rd_field rfl rfl fa59_1 _ rfl)) ?_
       refine GO_rd rfl rfl (wn_on rfl rfl rfl rfl) rfl hpS5 (fun w hp => (rd_load rfl rfl Try.underlying3 rfl (Sl.recE (hI.keep hp.mod) (i - 1) (by first | omega | assumption | exact Nat.lt_succ_self _) (rec_time _)))) ?_
       refine GO_rd rfl rfl (wn_on rfl rfl rfl rfl) rfl hpS5 (fun w hp => (rd_bin rfl rfl rfl bo_lss)) ?_
       refine GO_rdT (v := .bool _) rfl (wn_none rfl) rfl (fun w => (rd_pickT rfl rfl rfl)) ?_
       refine GO_nil ?_
       refine GW_cond rfl (fun hb6 => ?_) (fun hb6 => ?_)
       ·(try simp only [decide_eq_true_eq, decide_eq_false_iff_not, Bool.not_eq_true', Bool.not_eq_false', Bool.not_eq_eq_eq_not, Bool.not_true, Bool.not_false, Int.not_lt, Int.not_le] at hb6)
        refine GW_seq ?_
        refine GW_region ?_
        refine GL_rd (v := .int _ _) (wn_none rfl) rfl (rd_move rfl rfl) ?_
        refine GL_rd (v := .int _ _) (wn_none rfl) rfl (rd_assign rfl rfl) ?_
        refine GL_nil ?_
        refine GW_ret ?_
        have ev : verR l = (i : Int) := verR_at (by omega) hok (okR_no (by rintro ⟨q1, q2, q3, q4⟩; first | exact absurd q1 (by assumption) | exact absurd (congrArg Subtype.val q2) (by assumption) | exact absurd (congrArg Subtype.val q3) (by assumption) | (have := q4 (by omega); omega)))
        exact ⟨_, res1 Try.results51 (rv_tmp (v := .int _ _) rfl rfl), by rw [ev], hp.mods⟩
       ·(try simp only [decide_eq_true_eq, decide_eq_false_iff_not, Bool.not_eq_true', Bool.not_eq_false', Bool.not_eq_eq_eq_not, Bool.not_true, Bool.not_false, Int.not_lt, Int.not_le] at hb6)
        have q4 := hb6
        refine GW_skip ?_
        refine GW_region ?_
        refine GL_rd (wn_none rfl) rfl (rd_bin rfl rfl rfl (bo_add64 (by omega))) ?_
        refine GL_rd (v := .int _ _) (wn_none rfl) rfl (rd_move rfl rfl) ?_
        refine GL_nil ?_
        have hoki : okR l i = true := okR_iff.2 ⟨q1, a32_ext q2, a32_ext q3, fun hq => by omega⟩
        have hp := hp.mods
        exact ihL0 (i + 1) _ _ (by simp only []; omega) ⟨_, slots4 rfl rfl rfl rfl, hp, by omega, fun j hj => by rcases Nat.lt_succ_iff_lt_or_eq.1 hj with h | h; exact hok j h; subst h; exact hoki⟩
      ·intro hb5; (try simp only [decide_eq_true_eq, decide_eq_false_iff_not, Bool.not_eq_true', Bool.not_eq_false', Bool.not_eq_eq_eq_not, Bool.not_true, Bool.not_false, Int.not_lt, Int.not_le] at hb5)
       refine GO_pass rfl (nw_off rfl rfl rfl rfl rfl) rfl ?_
       refine GO_pass rfl (nw_off rfl rfl rfl rfl rfl) rfl ?_
       refine GO_pass rfl (nw_off rfl rfl rfl rfl rfl) rfl ?_
       refine GO_pass rfl (nw_off rfl rfl rfl rfl rfl) rfl ?_
       refine GO_pass rfl (nw_off rfl rfl rfl rfl rfl) rfl ?_
       refine GO_pass rfl (nw_off rfl rfl rfl rfl rfl) rfl ?_
       refine GO_pass rfl (nw_off rfl rfl rfl rfl rfl) rfl ?_
       refine GO_pass rfl (nw_off rfl rfl rfl rfl rfl) rfl ?_
       refine GO_pass rfl (nw_off rfl rfl rfl rfl rfl) rfl ?_
       refine GO_rdT (v := .bool _) rfl (wn_none rfl) rfl (fun w => (rd_pickF rfl rfl rfl)) ?_
       refine GO_nil ?_
       refine GW_false rfl ?_
       refine GW_skip ?_
       refine GW_region ?_
       refine GL_rd (wn_none rfl) rfl (rd_bin rfl rfl rfl (bo_add64 (by omega))) ?_
       refine GL_rd (v := .int _ _) (wn_none rfl) rfl (rd_move rfl rfl) ?_
       refine GL_nil ?_
       have hoki : okR l i = true := okR_iff.2 ⟨q1, a32_ext q2, a32_ext q3, fun hq => by omega⟩
       have hp := hp.mods
       exact ihL0 (i + 1) _ _ (by simp only []; omega) ⟨_, slots4 rfl rfl rfl rfl, hp, by omega, fun j hj => by rcases Nat.lt_succ_iff_lt_or_eq.1 hj with h | h; exact hok j h; subst h; exact hoki⟩
  ·(try simp only [decide_eq_true_eq, decide_eq_false_iff_not, Bool.not_eq_true', Bool.not_eq_false', Bool.not_eq_eq_eq_not, Bool.not_true, Bool.not_false, Int.not_lt, Int.not_le] at hb)
   refine GW_exit ?_
   refine GW_seq ?_
   refine GW_region ?_
   refine GL_rd (v := .int _ _) (wn_none rfl) rfl (rd_assign rfl rfl) ?_
   refine GL_nil ?_
   refine GW_ret ?_
   obtain rfl : m = i := by omega
   have ev : verR l = -1 := verR_all (by rw [hlm]; exact hok)
   exact ⟨_, res1 Try.results51 (rv_tmp (v := .int _ _) rfl rfl), by rw [ev], hp.mods⟩
 ·refine ⟨_, slots4 rfl rfl rfl rfl, hp, Nat.zero_le _, fun j hj => absurd hj (by omega)⟩

theorem ref_audVerify (sv : Value) (m : Nat) (l : List Rec) (w0 : World) (hI : Sl w0 sv 100 m (l.flatMap recC)) (hz : ∀ x ∈ l, x.actor.size ≤ 4294967296 ∧ x.reason.size ≤ 4294967296) : Does Try.prog 53 #[sv] w0 fun v w' => v = .int .i64 (verR l) ∧ Hp w0 [] w' [] := by
 obtain ⟨A, c, rfl⟩ := sl_shape hI
 have hlm := Sl.recs hI
 have hmle := hI.le
 refine does_of (l := [.slice A m c]) Try.func53 (by kernel_rfl) rfl Try.ntmps53 rfl rfl ?_
 have hp := Hp.refl w0 []
 refine GW_seq ?_
 refine GW_region ?_
 refine GL_rd (v := .int _ _) (wn_none rfl) rfl (rd_assign rfl rfl) ?_
 refine GL_nil ?_
 refine GW_seq ?_
 refine GW_seq ?_
 refine GW_region ?_
 refine GL_rd (v := .int _ _) (wn_none rfl) rfl (rd_assign rfl rfl) ?_
 refine GL_nil ?_
 refine GW_block ?_
 refine GW_loop ?_
 refine Lp_ind (α := Nat) (fun a_0 f_0 w' => match a_0 with | i => ∃ fz, f_0 = (upd (upd fz 0 (.slice A m c)) 3 (.int .i64 (i : Int))) ∧ Hp w0 [] w' [] ∧ (i ≤ m) ∧ (∀ j, j < i → okR l j = true)) (fun a_0 => match a_0 with | i => m - i) ?_ 0 _ _ ?_
 ·rintro i f wz ⟨fz, rfl, hp, hi0, hok⟩ ihL0
  refine Lp_round ?_
  refine GW_seq ?_
  refine GW_seq ?_
  refine GW_region ?_
  refine GL_rd (v := .int _ _) (wn_none rfl) rfl (rd_move rfl rfl) ?_
  refine GL_rd (v := .slice _ _ _) (wn_none rfl) rfl (rd_move rfl rfl) ?_
  refine GL_rd (wn_none rfl) rfl (rd_len rfl rfl Try.underlying56) ?_
  refine GL_rd (wn_none rfl) rfl (rd_bin rfl rfl rfl bo_lss) ?_
  refine GL_nil ?_
  refine GW_cond rfl (fun hb => ?_) (fun hb => ?_)
  ·(try simp only [decide_eq_true_eq, decide_eq_false_iff_not, Bool.not_eq_true', Bool.not_eq_false', Bool.not_eq_eq_eq_not, Bool.not_true, Bool.not_false, Int.not_lt, Int.not_le] at hb)
   obtain ⟨gA, bA, rfl⟩ := hI.addr (by rw [flat_length recC_len]; omega)
   refine GW_skip ?_
   refine GW_seq ?_
   refine GW_block ?_
   refine GW_seq ?_
   refine GW_drawnK 49 (.one 0 true (.one 1 true (.one 2 true (.one 3 true (.one 4 false (.one 5 true (.one 6 true (.one 7 true (.one 8 true (.one 9 true (.one 10 true (.one 11 true (.one 12 true (.one 13 true (.one 14 true (.one 15 false (.one 16 true (.one 17 true (.one 18 true (.one 19 true (.one 20 true (.one 21 true (.one 22 true (.one 23 true (.one 24 true (.one 25 true (.one 26 true (.one 27 true (.one 28 false (.one 29 true (.one 30 true (.one 31 true (.one 32 true (.one 33 true (.one 34 true (.one 35 true (.one 36 true (.one 37 true (.one 38 true (.one 39 true (.one 40 true (.one 41 true (.one 42 true (.one 43 true (.one 44 true (.one 45 true (.one 46 true (.one 47 true (.one 48 true .nil))))))))))))))))))))))))))))))))))))))))))))))))) mixed (by kernel_rfl) hp (fun _ h => h) fun w hp => ?_
   have hpS := hp
   refine GO_rdT (v := .slice _ _ _) rfl (wn_none rfl) rfl (fun w => (rd_move rfl rfl)) ?_
   refine GO_rdT (v := .int _ _) rfl (wn_none rfl) rfl (fun w => (rd_move rfl rfl)) ?_
   refine GO_rdT rfl (wn_none rfl) rfl (fun w => (rd_indexS (j := i) rfl rfl rfl Try.underlying56 ts59 rfl (by omega) _ rfl)) ?_
   refine GO_rd rfl rfl (wn_none rfl) rfl hpS (fun w hp => (rd_loadN (L := recC _) rfl rfl Try.underlying59 rfl ts59 (recC_len _) (fun jq u hj => Sl.recE (hI.keep hp.mod) i (by first | omega | assumption | exact Nat.lt_succ_self _) hj))) ?_
   refine GO_of_GL rfl ?_
   refine GL_call (wn_none rfl) rfl rfl (ref_audCheck (recAt l i) _ (hz _ (recAt_mem (by omega)))) rfl ?_
   rintro _ w ⟨rfl, hk⟩
   have hp := hp.comp hk
   have hpS2 := hp
   refine GL_nil ⟨fun _ => hpS2, ?_⟩
   refine GO_rd rfl rfl (wn_none rfl) rfl hpS2 (fun w hp => (rd_bin rfl rfl rfl bo_neq)) ?_
   refine GO_rdT (v := .bool _) rfl (wn_none rfl) rfl (fun w => (rd_move rfl rfl)) ?_
   refine GO_split (t := 16) (b := _) rfl ?_ ?_
   ·intro hb2; (try simp only [decide_eq_true_eq, decide_eq_false_iff_not, Bool.not_eq_true', Bool.not_eq_false', Bool.not_eq_eq_eq_not, Bool.not_true, Bool.not_false, Int.not_lt, Int.not_le] at hb2)
    refine GO_pass rfl (nw_off rfl rfl rfl rfl rfl) rfl ?_
    refine GO_pass rfl (nw_off rfl rfl rfl rfl rfl) rfl ?_
    refine GO_pass rfl (nw_off rfl rfl rfl rfl rfl) rfl ?_
    refine GO_pass rfl (nw_off rfl rfl rfl rfl rfl) rfl ?_
    refine GO_pass rfl (nw_off rfl rfl rfl rfl rfl) rfl ?_
    refine GO_pass rfl (nw_off rfl rfl rfl rfl rfl) rfl ?_
    refine GO_pass rfl (nw_off rfl rfl rfl rfl rfl) rfl ?_
    refine GO_pass rfl (nw_off rfl rfl rfl rfl rfl) rfl ?_
    refine GO_of_GL rfl ?_
    refine GL_pass (nw_off rfl rfl rfl rfl rfl) rfl (GL_nil ⟨fun _ => hpS2, ?_⟩)
    refine GO_pass rfl (nw_off rfl rfl rfl rfl rfl) rfl ?_
    refine GO_rdT (v := .bool _) rfl (wn_none rfl) rfl (fun w => (rd_pickT rfl rfl rfl)) ?_
    refine GO_rdT (v := .bool _) rfl (wn_none rfl) rfl (fun w => (rd_move rfl rfl)) ?_
    refine GO_pass rfl (nw_off rfl rfl rfl rfl rfl) rfl ?_
    refine GO_pass rfl (nw_off rfl rfl rfl rfl rfl) rfl ?_
    refine GO_pass rfl (nw_off rfl rfl rfl rfl rfl) rfl ?_
    refine GO_pass rfl (nw_off rfl rfl rfl rfl rfl) rfl ?_
    refine GO_pass rfl (nw_off rfl rfl rfl rfl rfl) rfl ?_
    refine GO_pass rfl (nw_off rfl rfl rfl rfl rfl) rfl ?_
    refine GO_pass rfl (nw_off rfl rfl rfl rfl rfl) rfl ?_
    refine GO_pass rfl (nw_off rfl rfl rfl rfl rfl) rfl ?_
    refine GO_pass rfl (nw_off rfl rfl rfl rfl rfl) rfl ?_
    refine GO_of_GL rfl ?_
    refine GL_pass (nw_off rfl rfl rfl rfl rfl) rfl (GL_nil ⟨fun _ => hpS2, ?_⟩)
    refine GO_pass rfl (nw_off rfl rfl rfl rfl rfl) rfl ?_
    refine GO_rdT (v := .bool _) rfl (wn_none rfl) rfl (fun w => (rd_pickT rfl rfl rfl)) ?_
    refine GO_rdT (v := .bool _) rfl (wn_none rfl) rfl (fun w => (rd_move rfl rfl)) ?_
    refine GO_pass rfl (nw_off rfl rfl rfl rfl rfl) rfl ?_
    refine GO_pass rfl (nw_off rfl rfl rfl rfl rfl) rfl ?_
    refine GO_pass rfl (nw_off rfl rfl rfl rfl rfl) rfl ?_
    refine GO_pass rfl (nw_undef rfl rfl rfl rfl) rfl ?_
    refine GO_pass rfl (nw_undef rfl rfl rfl rfl) rfl ?_
    refine GO_pass rfl (nw_undef rfl rfl rfl rfl) rfl ?_
    refine GO_pass rfl (nw_undef rfl rfl rfl rfl) rfl ?_
    refine GO_pass rfl (nw_undef rfl rfl rfl rfl) rfl ?_
    refine GO_pass rfl (nw_undef rfl rfl rfl rfl) rfl ?_
    refine GO_pass rfl (nw_undef rfl rfl rfl rfl) rfl ?_
    refine GO_pass rfl (nw_undef rfl rfl rfl rfl) rfl ?_
    refine GO_pass rfl (nw_undef rfl rfl rfl rfl) rfl ?_
    refine GO_pass rfl (nw_undef rfl rfl rfl rfl) rfl ?_
    refine GO_pass rfl (nw_undef rfl rfl rfl rfl) rfl ?_
    refine GO_pass rfl (nw_undef rfl rfl rfl rfl) rfl ?_
    refine GO_pass rfl (nw_off rfl rfl rfl rfl rfl) rfl ?_
    refine GO_rdT (v := .bool _) rfl (wn_none rfl) rfl (fun w => (rd_pickT rfl rfl rfl)) ?_
    refine GO_nil ?_
    refine GW_true rfl ?_
    refine GW_seq ?_
    refine GW_region ?_
    refine GL_rd (v := .int _ _) (wn_none rfl) rfl (rd_move rfl rfl) ?_
    refine GL_rd (v := .int _ _) (wn_none rfl) rfl (rd_assign rfl rfl) ?_
    refine GL_nil ?_
    refine GW_ret ?_
    have ev : verR l = (i : Int) := verR_at (by omega) hok (okR_no (by rintro ⟨q1, q2, q3, q4⟩; first | exact absurd q1 (by assumption) | exact absurd (congrArg Subtype.val q2) (by assumption) | exact absurd (congrArg Subtype.val q3) (by assumption) | (have := q4 (by omega); omega)))
    exact ⟨_, res1 Try.results53 (rv_tmp (v := .int _ _) rfl rfl), by rw [ev], hp.mods⟩
   ·intro hb2; (try simp only [decide_eq_true_eq, decide_eq_false_iff_not, Bool.not_eq_true', Bool.not_eq_false', Bool.not_eq_eq_eq_not, Bool.not_true, Bool.not_false, Int.not_lt, Int.not_le] at hb2)
    have q1 := hb2
    refine GO_rdT (v := .slice _ _ _) rfl (wn_on rfl rfl rfl rfl) rfl (fun w => (rd_move rfl rfl)) ?_
    refine GO_rdT (v := .int _ _) rfl (wn_on rfl rfl rfl rfl) rfl (fun w => (rd_move rfl rfl)) ?_
    refine GO_rdT rfl (wn_on rfl rfl rfl rfl) rfl (fun w => (rd_indexS (j := i) rfl rfl rfl Try.underlying56 ts59 rfl (by omega) _ rfl)) ?_
    refine GO_rdT rfl (wn_on rfl rfl rfl rfl) rfl (fun w => (rd_field rfl rfl fa59_5 _ rfl)) ?_
    refine GO_rd rfl rfl (wn_on rfl rfl rfl rfl) rfl hpS2 (fun w hp => (rd_loadN (L := bys _) rfl rfl Try.underlying57 rfl ts57 (prev_len _) (fun jq u hj => by rw [Nat.add_assoc]; exact Sl.recE (hI.keep hp.mod) i (by first | omega | assumption | exact Nat.lt_succ_self _) (rec_prev hj)))) ?_
    refine GO_rdT (v := .slice _ _ _) rfl (wn_on rfl rfl rfl rfl) rfl (fun w => (rd_move rfl rfl)) ?_
    refine GO_rdT (v := .int _ _) rfl (wn_on rfl rfl rfl rfl) rfl (fun w => (rd_move rfl rfl)) ?_
    refine GO_rd rfl rfl (wn_on rfl rfl rfl rfl) rfl hpS2 (fun w hp => (rd_sliceS (lo := 0) (hi := i) rfl rfl Try.underlying56 ts59 at_none (at_some rfl rfl) (by omega) (by have := (Sl.cap hI).1; omega))) ?_
    refine GO_of_GL rfl ?_
    refine GL_call (wn_on rfl rfl rfl rfl) rfl rfl (ref_audHead _ _ (l.take i) _ (Sl.cutE recC_len (hI.keep hp.mod) 0 i (Nat.zero_le _) (by omega))) rfl ?_
    rintro _ w ⟨rfl, hk⟩
    have hp := hp.comp hk
    have hpS3 := hp
    refine GL_nil ⟨fun _ => hpS3, ?_⟩
    refine GO_rd rfl rfl (wn_on rfl rfl rfl rfl) rfl hpS3 (fun w hp => (rd_bin rfl rfl rfl (bo_arrB Try.underlying57 Try.underlying5 ts5 (by kernel_rfl) (by first | exact a32_len _ | simp [*]) (by first | exact a32_len _ | simp [*])).2)) ?_
    refine GO_rdT (v := .bool _) rfl (wn_none rfl) rfl (fun w => (rd_pickF rfl rfl rfl)) ?_
    refine GO_rdT (v := .bool _) rfl (wn_none rfl) rfl (fun w => (rd_move rfl rfl)) ?_
    refine GO_split (t := 28) (b := _) rfl ?_ ?_
    ·intro hb3; (try simp only [decide_eq_true_eq, decide_eq_false_iff_not, Bool.not_eq_true', Bool.not_eq_false', Bool.not_eq_eq_eq_not, Bool.not_true, Bool.not_false, Int.not_lt, Int.not_le] at hb3)
     refine GO_pass rfl (nw_off rfl rfl rfl rfl rfl) rfl ?_
     refine GO_pass rfl (nw_off rfl rfl rfl rfl rfl) rfl ?_
     refine GO_pass rfl (nw_off rfl rfl rfl rfl rfl) rfl ?_
     refine GO_pass rfl (nw_off rfl rfl rfl rfl rfl) rfl ?_
     refine GO_pass rfl (nw_off rfl rfl rfl rfl rfl) rfl ?_
     refine GO_pass rfl (nw_off rfl rfl rfl rfl rfl) rfl ?_
     refine GO_pass rfl (nw_off rfl rfl rfl rfl rfl) rfl ?_
     refine GO_pass rfl (nw_off rfl rfl rfl rfl rfl) rfl ?_
     refine GO_pass rfl (nw_off rfl rfl rfl rfl rfl) rfl ?_
     refine GO_of_GL rfl ?_
     refine GL_pass (nw_off rfl rfl rfl rfl rfl) rfl (GL_nil ⟨fun _ => hpS3, ?_⟩)
     refine GO_pass rfl (nw_off rfl rfl rfl rfl rfl) rfl ?_
     refine GO_rdT (v := .bool _) rfl (wn_none rfl) rfl (fun w => (rd_pickT rfl rfl rfl)) ?_
     refine GO_rdT (v := .bool _) rfl (wn_none rfl) rfl (fun w => (rd_move rfl rfl)) ?_
     refine GO_pass rfl (nw_off rfl rfl rfl rfl rfl) rfl ?_
     refine GO_pass rfl (nw_off rfl rfl rfl rfl rfl) rfl ?_
     refine GO_pass rfl (nw_off rfl rfl rfl rfl rfl) rfl ?_
     refine GO_pass rfl (nw_undef rfl rfl rfl rfl) rfl ?_
     refine GO_pass rfl (nw_undef rfl rfl rfl rfl) rfl ?_
     refine GO_pass rfl (nw_undef rfl rfl rfl rfl) rfl ?_
     refine GO_pass rfl (nw_undef rfl rfl rfl rfl) rfl ?_
     refine GO_pass rfl (nw_undef rfl rfl rfl rfl) rfl ?_
     refine GO_pass rfl (nw_undef rfl rfl rfl rfl) rfl ?_
     refine GO_pass rfl (nw_undef rfl rfl rfl rfl) rfl ?_
     refine GO_pass rfl (nw_undef rfl rfl rfl rfl) rfl ?_
     refine GO_pass rfl (nw_undef rfl rfl rfl rfl) rfl ?_
     refine GO_pass rfl (nw_undef rfl rfl rfl rfl) rfl ?_
     refine GO_pass rfl (nw_undef rfl rfl rfl rfl) rfl ?_
     refine GO_pass rfl (nw_undef rfl rfl rfl rfl) rfl ?_
     refine GO_pass rfl (nw_off rfl rfl rfl rfl rfl) rfl ?_
     refine GO_rdT (v := .bool _) rfl (wn_none rfl) rfl (fun w => (rd_pickT rfl rfl rfl)) ?_
     refine GO_nil ?_
     refine GW_true rfl ?_
     refine GW_seq ?_
     refine GW_region ?_
     refine GL_rd (v := .int _ _) (wn_none rfl) rfl (rd_move rfl rfl) ?_
     refine GL_rd (v := .int _ _) (wn_none rfl) rfl (rd_assign rfl rfl) ?_
     refine GL_nil ?_
     refine GW_ret ?_
     have ev : verR l = (i : Int) := verR_at (by omega) hok (okR_no (by rintro ⟨q1, q2, q3, q4⟩; first | exact absurd q1 (by assumption) | exact absurd (congrArg Subtype.val q2) (by assumption) | exact absurd (congrArg Subtype.val q3) (by assumption) | (have := q4 (by omega); omega)))
     exact ⟨_, res1 Try.results53 (rv_tmp (v := .int _ _) rfl rfl), by rw [ev], hp.mods⟩
    ·intro hb3; (try simp only [decide_eq_true_eq, decide_eq_false_iff_not, Bool.not_eq_true', Bool.not_eq_false', Bool.not_eq_eq_eq_not, Bool.not_true, Bool.not_false, Int.not_lt, Int.not_le] at hb3)
     have q2 := hb3
     refine GO_rdT (v := .slice _ _ _) rfl (wn_on rfl rfl rfl rfl) rfl (fun w => (rd_move rfl rfl)) ?_
     refine GO_rdT (v := .int _ _) rfl (wn_on rfl rfl rfl rfl) rfl (fun w => (rd_move rfl rfl)) ?_
     refine GO_rdT rfl (wn_on rfl rfl rfl rfl) rfl (fun w => (rd_indexS (j := i) rfl rfl rfl Try.underlying56 ts59 rfl (by omega) _ rfl)) ?_
     refine GO_rdT rfl (wn_on rfl rfl rfl rfl) rfl (fun w => (rd_field rfl rfl fa59_6 _ rfl)) ?_
     refine GO_rd rfl rfl (wn_on rfl rfl rfl rfl) rfl hpS3 (fun w hp => (rd_loadN (L := bys _) rfl rfl Try.underlying57 rfl ts57 (sum_len _) (fun jq u hj => by rw [Nat.add_assoc]; exact Sl.recE (hI.keep hp.mod) i (by first | omega | assumption | exact Nat.lt_succ_self _) (rec_sum hj)))) ?_
     refine GO_rdT (v := .slice _ _ _) rfl (wn_on rfl rfl rfl rfl) rfl (fun w => (rd_move rfl rfl)) ?_
     refine GO_rdT (v := .int _ _) rfl (wn_on rfl rfl rfl rfl) rfl (fun w => (rd_move rfl rfl)) ?_
     refine GO_rdT rfl (wn_on rfl rfl rfl rfl) rfl (fun w => (rd_indexS (j := i) rfl rfl rfl Try.underlying56 ts59 rfl (by omega) _ rfl)) ?_
     refine GO_rd rfl rfl (wn_on rfl rfl rfl rfl) rfl hpS3 (fun w hp => (rd_loadN (L := recC _) rfl rfl Try.underlying59 rfl ts59 (recC_len _) (fun jq u hj => Sl.recE (hI.keep hp.mod) i (by first | omega | assumption | exact Nat.lt_succ_self _) hj))) ?_
     refine GO_of_GL rfl ?_
     refine GL_call (wn_on rfl rfl rfl rfl) rfl rfl (ref_audSum (recAt l i) _ (hz _ (recAt_mem (by omega)))) rfl ?_
     rintro _ w ⟨rfl, hk⟩
     have hp := hp.comp hk
     have hpS4 := hp
     refine GL_nil ⟨fun _ => hpS4, ?_⟩
     refine GO_rd rfl rfl (wn_on rfl rfl rfl rfl) rfl hpS4 (fun w hp => (rd_bin rfl rfl rfl (bo_arrB Try.underlying57 Try.underlying5 ts5 (by kernel_rfl) (by first | exact a32_len _ | simp [*]) (by first | exact a32_len _ | simp [*])).2)) ?_
     refine GO_rdT (v := .bool _) rfl (wn_none rfl) rfl (fun w => (rd_pickF rfl rfl rfl)) ?_
     refine GO_rdT (v := .bool _) rfl (wn_none rfl) rfl (fun w => (rd_move rfl rfl)) ?_
     refine GO_split (t := 41) (b := _) rfl ?_ ?_
     ·intro hb4; (try simp only [decide_eq_true_eq, decide_eq_false_iff_not, Bool.not_eq_true', Bool.not_eq_false', Bool.not_eq_eq_eq_not, Bool.not_true, Bool.not_false, Int.not_lt, Int.not_le] at hb4)
      refine GO_pass rfl (nw_off rfl rfl rfl rfl rfl) rfl ?_
      refine GO_pass rfl (nw_off rfl rfl rfl rfl rfl) rfl ?_
      refine GO_pass rfl (nw_off rfl rfl rfl rfl rfl) rfl ?_
      refine GO_pass rfl (nw_undef rfl rfl rfl rfl) rfl ?_
      refine GO_pass rfl (nw_undef rfl rfl rfl rfl) rfl ?_
      refine GO_pass rfl (nw_undef rfl rfl rfl rfl) rfl ?_
      refine GO_pass rfl (nw_undef rfl rfl rfl rfl) rfl ?_
      refine GO_pass rfl (nw_undef rfl rfl rfl rfl) rfl ?_
      refine GO_pass rfl (nw_undef rfl rfl rfl rfl) rfl ?_
      refine GO_pass rfl (nw_undef rfl rfl rfl rfl) rfl ?_
      refine GO_pass rfl (nw_undef rfl rfl rfl rfl) rfl ?_
      refine GO_pass rfl (nw_undef rfl rfl rfl rfl) rfl ?_
      refine GO_pass rfl (nw_undef rfl rfl rfl rfl) rfl ?_
      refine GO_pass rfl (nw_undef rfl rfl rfl rfl) rfl ?_
      refine GO_pass rfl (nw_undef rfl rfl rfl rfl) rfl ?_
      refine GO_pass rfl (nw_off rfl rfl rfl rfl rfl) rfl ?_
      refine GO_rdT (v := .bool _) rfl (wn_none rfl) rfl (fun w => (rd_pickT rfl rfl rfl)) ?_
      refine GO_nil ?_
      refine GW_true rfl ?_
      refine GW_seq ?_
      refine GW_region ?_
      refine GL_rd (v := .int _ _) (wn_none rfl) rfl (rd_move rfl rfl) ?_
      refine GL_rd (v := .int _ _) (wn_none rfl) rfl (rd_assign rfl rfl) ?_
      refine GL_nil ?_
      refine GW_ret ?_
      have ev : verR l = (i : Int) := verR_at (by omega) hok (okR_no (by rintro ⟨q1, q2, q3, q4⟩; first | exact absurd q1 (by assumption) | exact absurd (congrArg Subtype.val q2) (by assumption) | exact absurd (congrArg Subtype.val q3) (by assumption) | (have := q4 (by omega); omega)))
      exact ⟨_, res1 Try.results53 (rv_tmp (v := .int _ _) rfl rfl), by rw [ev], hp.mods⟩
     ·intro hb4; (try simp only [decide_eq_true_eq, decide_eq_false_iff_not, Bool.not_eq_true', Bool.not_eq_false', Bool.not_eq_eq_eq_not, Bool.not_true, Bool.not_false, Int.not_lt, Int.not_le] at hb4)
      have q3 := hb4
      refine GO_rdT (v := .int _ _) rfl (wn_on rfl rfl rfl rfl) rfl (fun w => (rd_move rfl rfl)) ?_
      refine GO_rd rfl rfl (wn_on rfl rfl rfl rfl) rfl hpS4 (fun w hp => (rd_bin rfl rfl rfl bo_gtr)) ?_
      refine GO_rdT (v := .bool _) rfl (wn_on rfl rfl rfl rfl) rfl (fun w => (rd_move rfl rfl)) ?_
      refine GO_split (t := 44) (b := _) rfl ?_ ?_
      ·intro hb5; (try simp only [decide_eq_true_eq, decide_eq_false_iff_not, Bool.not_eq_true', Bool.not_eq_false', Bool.not_eq_eq_eq_not, Bool.not_true, Bool.not_false, Int.not_lt, Int.not_le] at hb5)
       refine GO_rdT (v := .slice _ _ _) rfl (wn_on rfl rfl rfl rfl) rfl (fun w => (rd_move rfl rfl)) ?_
       refine GO_rdT (v := .int _ _) rfl (wn_on rfl rfl rfl rfl) rfl (fun w => (rd_move rfl rfl)) ?_
       refine GO_rdT rfl (wn_on rfl rfl rfl rfl) rfl (fun w => (rd_indexS (j := i) rfl rfl rfl Try.underlying56 ts59 rfl (by omega) _ rfl)) ?_
       refine GO_rdT rfl (wn_on rfl rfl rfl rfl) rfl (fun w => (rd_field rfl rfl fa59_1 _ rfl)) ?_
       refine GO_rd rfl rfl (wn_on rfl rfl rfl rfl) rfl hpS4 (fun w hp => (rd_load rfl rfl Try.underlying3 rfl (Sl.recE (hI.keep hp.mod) i (by first | omega | assumption | exact Nat.lt_succ_self _) (rec_time _)))) ?_
       refine GO_rdT (v := .slice _ _ _) rfl (wn_on rfl rfl rfl rfl) rfl (fun w => (rd_move rfl rfl)) ?_
       refine GO_rdT (v := .int _ _) rfl (wn_on rfl rfl rfl rfl) rfl (fun w => (rd_move rfl rfl)) ?_
       refine GO_rd rfl rfl (wn_on rfl rfl rfl rfl) rfl hpS4 (fun w hp => (rd_bin rfl rfl rfl (bo_sub64 (by omega)))) ?_
       refine GO_rdT rfl (wn_on rfl rfl rfl rfl) rfl (fun w => (rd_indexS (j := (i - 1)) rfl rfl rfl Try.underlying56 ts59 (by omega) (by omega) _ rfl)) ?_
       refine GO_rdT rfl (wn_on rfl rfl rfl rfl) rfl (fun w => (rd_field rfl rfl fa59_1 _ rfl)) ?_
       refine GO_rd rfl rfl (wn_on rfl rfl rfl rfl) rfl hpS4 (fun w hp => (rd_load rfl rfl Try.underlying3 rfl (Sl.recE (hI.keep hp.mod) (i - 1) (by first | omega | assumption | exact Nat.lt_succ_self _) (rec_time _)))) ?_
       refine GO_rd rfl rfl (wn_on rfl rfl rfl rfl) rfl hpS4 (fun w hp => (rd_bin rfl rfl rfl bo_lss)) ?_
       refine GO_rdT (v := .bool _) rfl (wn_on rfl rfl rfl rfl) rfl (fun w => (rd_pickT rfl rfl rfl)) ?_
       refine GO_rdT (v := .bool _) rfl (wn_none rfl) rfl (fun w => (rd_pickF rfl rfl rfl)) ?_
       refine GO_nil ?_
       refine GW_cond rfl (fun hb6 => ?_) (fun hb6 => ?_)
       ·(try simp only [decide_eq_true_eq, decide_eq_false_iff_not, Bool.not_eq_true', Bool.not_eq_false', Bool.not_eq_eq_eq_not, Bool.not_true, Bool.not_false, Int.not_lt, Int.not_le] at hb6)
        refine GW_seq ?_
        refine GW_region ?_
        refine GL_rd (v := .int _ _) (wn_none rfl) rfl (rd_move rfl rfl) ?_
        refine GL_rd (v := .int _ _) (wn_none rfl) rfl (rd_assign rfl rfl) ?_
        refine GL_nil ?_
        refine GW_ret ?_
        have ev : verR l = (i : Int) := verR_at (by omega) hok (okR_no (by rintro ⟨q1, q2, q3, q4⟩; first | exact absurd q1 (by assumption) | exact absurd (congrArg Subtype.val q2) (by assumption) | exact absurd (congrArg Subtype.val q3) (by assumption) | (have := q4 (by omega); omega)))
        exact ⟨_, res1 Try.results53 (rv_tmp (v := .int _ _) rfl rfl), by rw [ev], hp.mods⟩
       ·(try simp only [decide_eq_true_eq, decide_eq_false_iff_not, Bool.not_eq_true', Bool.not_eq_false', Bool.not_eq_eq_eq_not, Bool.not_true, Bool.not_false, Int.not_lt, Int.not_le] at hb6)
        have q4 := hb6
        refine GW_skip ?_
        refine GW_region ?_
        refine GL_rd (v := .int _ _) (wn_none rfl) rfl (rd_move rfl rfl) ?_
        refine GL_rd (wn_none rfl) rfl (rd_bin rfl rfl rfl (bo_add64 (by omega))) ?_
        refine GL_rd (v := .int _ _) (wn_none rfl) rfl (rd_assign rfl rfl) ?_
        refine GL_nil ?_
        have hoki : okR l i = true := okR_iff.2 ⟨q1, a32_ext q2, a32_ext q3, fun hq => by omega⟩
        exact ihL0 (i + 1) _ _ (by simp only []; omega) ⟨_, slots2 rfl rfl, hp, by omega, fun j hj => by rcases Nat.lt_succ_iff_lt_or_eq.1 hj with h | h; exact hok j h; subst h; exact hoki⟩
      ·intro hb5; (try simp only [decide_eq_true_eq, decide_eq_false_iff_not, Bool.not_eq_true', Bool.not_eq_false', Bool.not_eq_eq_eq_not, Bool.not_true, Bool.not_false, Int.not_lt, Int.not_le] at hb5)
       refine GO_pass rfl (nw_off rfl rfl rfl rfl rfl) rfl ?_
       refine GO_pass rfl (nw_off rfl rfl rfl rfl rfl) rfl ?_
       refine GO_pass rfl (nw_off rfl rfl rfl rfl rfl) rfl ?_
       refine GO_pass rfl (nw_off rfl rfl rfl rfl rfl) rfl ?_
       refine GO_pass rfl (nw_off rfl rfl rfl rfl rfl) rfl ?_
       refine GO_pass rfl (nw_off rfl rfl rfl rfl rfl) rfl ?_
       refine GO_pass rfl (nw_off rfl rfl rfl rfl rfl) rfl ?_
       refine GO_pass rfl (nw_off rfl rfl rfl rfl rfl) rfl ?_
       refine GO_pass rfl (nw_off rfl rfl rfl rfl rfl) rfl ?_
       refine GO_pass rfl (nw_off rfl rfl rfl rfl rfl) rfl ?_
       refine GO_pass rfl (nw_off rfl rfl rfl rfl rfl) rfl ?_
       refine GO_pass rfl (nw_off rfl rfl rfl rfl rfl) rfl ?_
       refine GO_rdT (v := .bool _) rfl (wn_on rfl rfl rfl rfl) rfl (fun w => (rd_pickF rfl rfl rfl)) ?_
       refine GO_rdT (v := .bool _) rfl (wn_none rfl) rfl (fun w => (rd_pickF rfl rfl rfl)) ?_
       refine GO_nil ?_
       refine GW_false rfl ?_
       refine GW_skip ?_
       refine GW_region ?_
       refine GL_rd (v := .int _ _) (wn_none rfl) rfl (rd_move rfl rfl) ?_
       refine GL_rd (wn_none rfl) rfl (rd_bin rfl rfl rfl (bo_add64 (by omega))) ?_
       refine GL_rd (v := .int _ _) (wn_none rfl) rfl (rd_assign rfl rfl) ?_
       refine GL_nil ?_
       have hoki : okR l i = true := okR_iff.2 ⟨q1, a32_ext q2, a32_ext q3, fun hq => by omega⟩
       exact ihL0 (i + 1) _ _ (by simp only []; omega) ⟨_, slots2 rfl rfl, hp, by omega, fun j hj => by rcases Nat.lt_succ_iff_lt_or_eq.1 hj with h | h; exact hok j h; subst h; exact hoki⟩
  ·(try simp only [decide_eq_true_eq, decide_eq_false_iff_not, Bool.not_eq_true', Bool.not_eq_false', Bool.not_eq_eq_eq_not, Bool.not_true, Bool.not_false, Int.not_lt, Int.not_le] at hb)
   refine GW_exit ?_
   refine GW_seq ?_
   refine GW_region ?_
   refine GL_rd (v := .int _ _) (wn_none rfl) rfl (rd_assign rfl rfl) ?_
   refine GL_nil ?_
   refine GW_ret ?_
   obtain rfl : m = i := by omega
   have ev : verR l = -1 := verR_all (by rw [hlm]; exact hok)
   exact ⟨_, res1 Try.results53 (rv_tmp (v := .int _ _) rfl rfl), by rw [ev], hp.mods⟩
 ·refine ⟨_, slots2 rfl rfl, hp, Nat.zero_le _, fun j hj => absurd hj (by omega)⟩

theorem aud_Accepts (sv : Value) (m : Nat) (l : List Rec) (a : A32) (w0 : World) (hI : Sl w0 sv 100 m (l.flatMap recC)) (hz : ∀ x ∈ l, x.actor.size ≤ 4294967296 ∧ x.reason.size ≤ 4294967296) : Does Try.prog 52 #[sv, .agg ⟨bys a.1⟩] w0 fun v w' => v = .bool (decide (verR l < 0 ∧ headR l = a)) ∧ Hp w0 [] w' [] := by
 obtain ⟨A, c, rfl⟩ := sl_shape hI
 have hlm := Sl.recs hI
 have hmle := hI.le
 refine does_of (l := [.slice A m c, .agg ⟨bys a.1⟩]) Try.func52 (by kernel_rfl) rfl Try.ntmps52 rfl rfl ?_
 have hp := Hp.refl w0 []
 refine GW_seq ?_
 refine GW_region ?_
 refine GL_box (wn_none rfl) rfl rfl rfl rfl hp ?_
 intro g w hp
 refine GL_rd (v := .bool _) (wn_none rfl) rfl (rd_assign rfl rfl) ?_
 refine GL_nil ?_
 refine GW_seq ?_
 refine GW_drawnK 10 (.one 0 true (.one 1 false (.one 2 true (.one 3 true (.one 4 true (.one 6 true (.one 5 false (.one 7 true (.one 8 true (.one 9 true .nil)))))))))) mixed (by kernel_rfl) hp (fun _ h => h) fun w hp => ?_
 have hpS := hp
 refine GO_rdT (v := .slice _ _ _) rfl (wn_none rfl) rfl (fun w => (rd_move rfl rfl)) ?_
 refine GO_of_GL rfl ?_
 refine GL_call (wn_none rfl) rfl rfl (aud_Verify _ _ l _ (hI.keep hp.mod) hz) rfl ?_
 rintro _ w ⟨rfl, hk⟩
 have hp := hp.comp hk
 have hpS2 := hp
 refine GL_nil ⟨fun _ => hpS2, ?_⟩
 refine GO_rd rfl rfl (wn_none rfl) rfl hpS2 (fun w hp => (rd_bin rfl rfl rfl bo_lss)) ?_
 refine GO_rdT (v := .bool _) rfl (wn_none rfl) rfl (fun w => (rd_move rfl rfl)) ?_
 refine GO_split (t := 8) (b := _) rfl ?_ ?_
 ·intro hb; (try simp only [decide_eq_true_eq, decide_eq_false_iff_not, Bool.not_eq_true', Bool.not_eq_false', Bool.not_eq_eq_eq_not, Bool.not_true, Bool.not_false, Int.not_lt, Int.not_le] at hb)
  have h1 := hb
  refine GO_rdT (v := .slice _ _ _) rfl (wn_on rfl rfl rfl rfl) rfl (fun w => (rd_move rfl rfl)) ?_
  refine GO_rd rfl rfl (wn_on rfl rfl rfl rfl) rfl hpS2 (fun w hp => (rd_loadC rfl rfl Try.underlying57 rfl ts57 (hp.get 0 rfl) (by rw [bys_length]; exact a32_len _))) ?_
  refine GO_of_GL rfl ?_
  refine GL_call (wn_on rfl rfl rfl rfl) rfl rfl (aud_Head _ _ l _ (hI.keep hp.mod)) rfl ?_
  rintro _ w ⟨rfl, hk⟩
  have hp := hp.comp hk
  have hpS3 := hp
  refine GL_nil ⟨fun _ => hpS3, ?_⟩
  refine GO_rd rfl rfl (wn_on rfl rfl rfl rfl) rfl hpS3 (fun w hp => (rd_bin rfl rfl rfl (bo_arrB Try.underlying57 Try.underlying5 ts5 (by kernel_rfl) (by first | exact a32_len _ | simp [*]) (by first | exact a32_len _ | simp [*])).1)) ?_
  refine GO_rdT (v := .bool _) rfl (wn_none rfl) rfl (fun w => (rd_pickT rfl rfl rfl)) ?_
  refine GO_rdT (v := .bool _) rfl (wn_none rfl) rfl (fun w => (rd_assign rfl rfl)) ?_
  refine GO_nil ?_
  refine GW_ret ?_
  have e : decide (verR l < 0 ∧ headR l = a) = decide ((headR l).1 = a.1) := decide_eq_decide.2 ⟨fun q => congrArg Subtype.val q.2, fun q => ⟨h1, a32_ext q⟩⟩
  exact ⟨_, res1 Try.results52 (rv_tmp (v := .bool _) rfl rfl), by rw [e], hp.mods⟩
 ·intro hb; (try simp only [decide_eq_true_eq, decide_eq_false_iff_not, Bool.not_eq_true', Bool.not_eq_false', Bool.not_eq_eq_eq_not, Bool.not_true, Bool.not_false, Int.not_lt, Int.not_le] at hb)
  have h1 := hb
  refine GO_pass rfl (nw_off rfl rfl rfl rfl rfl) rfl ?_
  refine GO_pass rfl (nw_off rfl rfl rfl rfl rfl) rfl ?_
  refine GO_of_GL rfl ?_
  refine GL_pass (nw_off rfl rfl rfl rfl rfl) rfl (GL_nil ⟨fun _ => hpS2, ?_⟩)
  refine GO_pass rfl (nw_off rfl rfl rfl rfl rfl) rfl ?_
  refine GO_rdT (v := .bool _) rfl (wn_none rfl) rfl (fun w => (rd_pickF rfl rfl rfl)) ?_
  refine GO_rdT (v := .bool _) rfl (wn_none rfl) rfl (fun w => (rd_assign rfl rfl)) ?_
  refine GO_nil ?_
  refine GW_ret ?_
  have e : decide (verR l < 0 ∧ headR l = a) = false := decide_eq_false (fun q => by have := q.1; omega)
  exact ⟨_, res1 Try.results52 (rv_tmp (v := .bool _) rfl rfl), by rw [e], hp.mods⟩

theorem aud_Put (r : Rec) (w0 : World) (hz : r.actor.size ≤ 4294967296 ∧ r.reason.size ≤ 4294967296) : Does Try.prog 38 #[.agg ⟨recC r⟩] w0 fun v w' => ∃ sv, v = .tuple #[sv, .int .i64 (checkR r)] ∧ Hp w0 [] w' [.row 5 1 sv (putB r).length (bys (putB r))] := by
 have hl3 := saidR_le r
 refine does_of (l := [.agg ⟨recC r⟩]) Try.func38 (by kernel_rfl) rfl Try.ntmps38 rfl rfl ?_
 have hp := Hp.refl w0 []
 refine GW_seq ?_
 refine GW_region ?_
 refine GL_box (wn_none rfl) rfl rfl rfl rfl hp ?_
 intro g w hp
 refine GL_rd (v := .slice _ _ _) (wn_none rfl) rfl (rd_assign rfl rfl) ?_
 refine GL_rd (v := .int _ _) (wn_none rfl) rfl (rd_assign rfl rfl) ?_
 refine GL_nil ?_
 refine GW_seq ?_
 refine GW_seq ?_
 refine GW_region ?_
 refine GL_rd (wn_none rfl) rfl (rd_loadC rfl rfl Try.underlying59 rfl ts59 (hp.get 0 rfl) (recC_len _)) ?_
 refine GL_call (wn_none rfl) rfl rfl (aud_Check r _ hz) rfl ?_
 rintro _ w ⟨rfl, hk⟩
 have hp := hp.comp hk
 refine GL_rd (v := .int _ _) (wn_none rfl) rfl (rd_assign rfl rfl) ?_
 refine GL_nil ?_
 refine GW_seq ?_
 refine GW_region ?_
 refine GL_rd (v := .int _ _) (wn_none rfl) rfl (rd_move rfl rfl) ?_
 refine GL_rd (wn_none rfl) rfl (rd_bin rfl rfl rfl bo_neq) ?_
 refine GL_nil ?_
 refine GW_cond rfl (fun hb => ?_) (fun hb => ?_)
 ·(try simp only [decide_eq_true_eq, decide_eq_false_iff_not, Bool.not_eq_true', Bool.not_eq_false', Bool.not_eq_eq_eq_not, Bool.not_true, Bool.not_false, Int.not_lt, Int.not_le] at hb)
  have hc : ¬ checkR r = 0 := hb
  refine GW_seq ?_
  refine GW_region ?_
  refine GL_rd (v := .int _ _) (wn_none rfl) rfl (rd_move rfl rfl) ?_
  refine GL_rd (v := .slice _ _ _) (wn_none rfl) rfl (rd_assign rfl rfl) ?_
  refine GL_rd (v := .int _ _) (wn_none rfl) rfl (rd_assign rfl rfl) ?_
  refine GL_nil ?_
  refine GW_ret ?_
  have hp := hp.mods.nilRow 5 1
  have e : putB r = [] := putB_no hc
  refine ⟨_, res2 Try.results38 (rv_tmp (v := .slice _ _ _) rfl rfl) (rv_tmp (v := .int _ _) rfl rfl), .slice none 0 0, rfl, ?_⟩
  rw [e]; exact hp
 ·(try simp only [decide_eq_true_eq, decide_eq_false_iff_not, Bool.not_eq_true', Bool.not_eq_false', Bool.not_eq_eq_eq_not, Bool.not_true, Bool.not_false, Int.not_lt, Int.not_le] at hb)
  have hc : checkR r = 0 := hb
  refine GW_skip ?_
  refine GW_seq ?_
  refine GW_drawnK 7 (.one 0 true (.one 2 true (.one 3 true (.one 1 false (.one 4 false (.one 5 true (.one 6 true .nil))))))) mixed (by kernel_rfl) hp (fun _ h => h) fun w hp => ?_
  have hpS := hp
  refine GO_rd rfl rfl (wn_none rfl) rfl hpS (fun w hp => (rd_loadC rfl rfl Try.underlying59 rfl ts59 (hp.get 0 rfl) (recC_len _))) ?_
  refine GO_rdT rfl (wn_none rfl) rfl (fun w => (rd_field rfl rfl fa59_6 _ rfl)) ?_
  refine GO_rd rfl rfl (wn_none rfl) rfl hpS (fun w hp => (rd_sliceA (lo := 0) (hi := 32) rfl rfl Try.underlying57 ts5 at_none to_none (by decide) (by decide) (by decide) _ rfl)) ?_
  refine GO_of_GL rfl ?_
  refine GL_call (wn_none rfl) rfl rfl (aud_said r _ hz) rfl ?_
  intro vs w hk
  have hp := hp.comp hk
  have hpS2 := (hp.sub (.cons _ (.cons_cons _ .slnil)))
  refine GL_nil ⟨fun _ => hpS2, ?_⟩
  refine GO_of_GL rfl ?_
  refine GL_append (i := 0) (wn_none rfl) rfl rfl rfl rfl Try.underlying39 ti5 rfl (by decide) hp rfl (Sl.cells (hp.get 1 rfl) 1 32 32 68 _ (rec_sumC r) (by rw [recC_len]; decide) (by decide) (by decide)) (bys_one _) (by omega) (by omega) ?_
  intro v w hp
  rw [← bys_append] at hp
  have hpS3 := (hp.sub (.cons _ (.cons_cons _ .slnil)))
  refine GL_nil ⟨fun _ => hpS3, ?_⟩
  refine GO_rdT (v := v) rfl (wn_none rfl) rfl (fun w => (rd_assign rfl rfl)) ?_
  refine GO_rdT (v := .int _ _) rfl (wn_none rfl) rfl (fun w => (rd_assign rfl rfl)) ?_
  refine GO_nil ?_
  refine GW_ret ?_
  have hp := ((hp.front 0 rfl).take 1)
  replace hp := hp.cast (show _ = [Res.row 5 1 v _ (bys (putB r))] by rw [putB_yes hc]; rfl)
  have en := row_n (hp.get 0 rfl)
  rw [en] at hp
  exact ⟨_, res2 Try.results38 (rv_tmp (v := v) rfl rfl) (rv_tmp (v := .int _ _) rfl rfl), _, by rw [hc], hp⟩

theorem ref_audPut (r : Rec) (w0 : World) (hz : r.actor.size ≤ 4294967296 ∧ r.reason.size ≤ 4294967296) : Does Try.prog 39 #[.agg ⟨recC r⟩] w0 fun v w' => ∃ sv, v = .tuple #[sv, .int .i64 (checkR r)] ∧ Hp w0 [] w' [.row 5 1 sv (putB r).length (bys (putB r))] := by
 have hl3 := saidR_le r
 refine does_of (l := [.agg ⟨recC r⟩]) Try.func39 (by kernel_rfl) rfl Try.ntmps39 rfl rfl ?_
 have hp := Hp.refl w0 []
 refine GW_seq ?_
 refine GW_region ?_
 refine GL_box (wn_none rfl) rfl rfl rfl rfl hp ?_
 intro g w hp
 refine GL_rd (v := .slice _ _ _) (wn_none rfl) rfl (rd_assign rfl rfl) ?_
 refine GL_rd (v := .int _ _) (wn_none rfl) rfl (rd_assign rfl rfl) ?_
 refine GL_nil ?_
 refine GW_seq ?_
 refine GW_seq ?_
 refine GW_region ?_
 refine GL_rd (wn_none rfl) rfl (rd_loadC rfl rfl Try.underlying59 rfl ts59 (hp.get 0 rfl) (recC_len _)) ?_
 refine GL_call (wn_none rfl) rfl rfl (ref_audCheck r _ hz) rfl ?_
 rintro _ w ⟨rfl, hk⟩
 have hp := hp.comp hk
 refine GL_rd (v := .int _ _) (wn_none rfl) rfl (rd_assign rfl rfl) ?_
 refine GL_nil ?_
 refine GW_seq ?_
 refine GW_region ?_
 refine GL_rd (v := .int _ _) (wn_none rfl) rfl (rd_move rfl rfl) ?_
 refine GL_rd (wn_none rfl) rfl (rd_bin rfl rfl rfl bo_neq) ?_
 refine GL_nil ?_
 refine GW_cond rfl (fun hb => ?_) (fun hb => ?_)
 ·(try simp only [decide_eq_true_eq, decide_eq_false_iff_not, Bool.not_eq_true', Bool.not_eq_false', Bool.not_eq_eq_eq_not, Bool.not_true, Bool.not_false, Int.not_lt, Int.not_le] at hb)
  have hc : ¬ checkR r = 0 := hb
  refine GW_seq ?_
  refine GW_region ?_
  refine GL_rd (v := .int _ _) (wn_none rfl) rfl (rd_move rfl rfl) ?_
  refine GL_rd (v := .slice _ _ _) (wn_none rfl) rfl (rd_assign rfl rfl) ?_
  refine GL_rd (v := .int _ _) (wn_none rfl) rfl (rd_assign rfl rfl) ?_
  refine GL_nil ?_
  refine GW_ret ?_
  have hp := hp.mods.nilRow 5 1
  have e : putB r = [] := putB_no hc
  refine ⟨_, res2 Try.results39 (rv_tmp (v := .slice _ _ _) rfl rfl) (rv_tmp (v := .int _ _) rfl rfl), .slice none 0 0, rfl, ?_⟩
  rw [e]; exact hp
 ·(try simp only [decide_eq_true_eq, decide_eq_false_iff_not, Bool.not_eq_true', Bool.not_eq_false', Bool.not_eq_eq_eq_not, Bool.not_true, Bool.not_false, Int.not_lt, Int.not_le] at hb)
  have hc : checkR r = 0 := hb
  refine GW_skip ?_
  refine GW_seq ?_
  refine GW_region ?_
  refine GL_rd (wn_none rfl) rfl (rd_loadC rfl rfl Try.underlying59 rfl ts59 (hp.get 0 rfl) (recC_len _)) ?_
  refine GL_call (wn_none rfl) rfl rfl (ref_audSaid r _ hz) rfl ?_
  intro vs w hk
  have hp := hp.comp hk
  obtain ⟨As, cs, rfl⟩ := row_shape (hp.get 0 rfl)
  refine GL_rd (v := .slice _ _ _) (wn_none rfl) rfl (rd_assign rfl rfl) ?_
  refine GL_nil ?_
  refine GW_seq ?_
  refine GW_seq ?_
  refine GW_region ?_
  refine GL_rd (v := .int _ _) (wn_none rfl) rfl (rd_assign rfl rfl) ?_
  refine GL_nil ?_
  refine GW_block ?_
  refine GW_loop ?_
  refine Lp_ind (α := Nat × Nat × Option Addr × Nat × List UInt8) (fun a_0 f_0 w' => match a_0 with | (i, n, A2, c2, xs) => ∃ fz, f_0 = (upd (upd (upd fz 1 (.pointer (some ⟨g, 0, none⟩))) 5 (.slice A2 n c2)) 6 (.int .i64 (i : Int))) ∧ Hp w0 [] w' [.row 5 1 (.slice A2 n c2) n (bys xs), cells g 59 (recC r)] ∧ (i ≤ 32) ∧ (n = (saidR r).length + i) ∧ (xs = saidR r ++ (r.sum.1).take i)) (fun a_0 => match a_0 with | (i, n, A2, c2, xs) => 32 - i) ?_ (0, (saidR r).length, As, cs, saidR r) _ _ ?_
  ·rintro ⟨i, n, A2, c2, xs⟩ f wz ⟨fz, rfl, hp, hi0, hn, hx⟩ ihL0
   refine Lp_round ?_
   refine GW_seq ?_
   refine GW_seq ?_
   refine GW_region ?_
   refine GL_rd (v := .int _ _) (wn_none rfl) rfl (rd_move rfl rfl) ?_
   refine GL_rd (wn_none rfl) rfl (rd_bin rfl rfl rfl bo_lss) ?_
   refine GL_nil ?_
   refine GW_cond rfl (fun hb2 => ?_) (fun hb2 => ?_)
   ·(try simp only [decide_eq_true_eq, decide_eq_false_iff_not, Bool.not_eq_true', Bool.not_eq_false', Bool.not_eq_eq_eq_not, Bool.not_true, Bool.not_false, Int.not_lt, Int.not_le] at hb2)
    refine GW_skip ?_
    refine GW_seq ?_
    refine GW_block ?_
    refine GW_region ?_
    refine GL_rd (v := .slice _ _ _) (wn_none rfl) rfl (rd_move rfl rfl) ?_
    refine GL_rd (v := .int _ _) (wn_none rfl) rfl (rd_move rfl rfl) ?_
    refine GL_rd (wn_none rfl) rfl (rd_field rfl rfl fa59_6 _ rfl) ?_
    refine GL_rd (wn_none rfl) rfl (rd_indexA (j := i) rfl rfl rfl Try.underlying57 ts5 rfl (by omega) _ rfl) ?_
    refine GL_rd (wn_none rfl) rfl (rd_load rfl rfl Try.underlying5 rfl ((cell_of_cells (hp.get 1 rfl) _).trans (rec_byteSum r (by omega)))) ?_
    refine GL_lit (L := (bys [(r.sum.1).getD i 0])) (wn_none rfl) rfl rfl Try.underlying39 ts5 tz5 rfl (by kernel_rfl) rfl rfl hp ?_
    intro g2 w hp
    refine GL_append (i := 1) (wn_none rfl) rfl rfl rfl rfl Try.underlying39 ti5 rfl (by decide) hp rfl (Sl.row (hp.get 0 rfl)) (bys_one _) (by omega) (by omega) ?_
    intro v w hp
    obtain ⟨Av, cv, rfl⟩ := row_shape (hp.get 1 rfl)
    rw [← bys_append] at hp
    refine GL_rd (v := .slice _ _ _) (wn_none rfl) rfl (rd_assign rfl rfl) ?_
    refine GL_nil ?_
    refine GW_region ?_
    refine GL_rd (v := .int _ _) (wn_none rfl) rfl (rd_move rfl rfl) ?_
    refine GL_rd (wn_none rfl) rfl (rd_bin rfl rfl rfl (bo_add64 (by omega))) ?_
    refine GL_rd (v := .int _ _) (wn_none rfl) rfl (rd_assign rfl rfl) ?_
    refine GL_nil ?_
    have hp := (((hp.front 2 rfl).front 2 rfl).take 2)
    exact ihL0 (i + 1, _, _, _, _) _ _ (by simp only []; omega) ⟨_, slots3 rfl rfl rfl, hp, by omega, by omega, by rw [hx, List.append_assoc, List.take_succ_eq_append_getD (by rw [r.sum.2]; omega)]⟩
   ·(try simp only [decide_eq_true_eq, decide_eq_false_iff_not, Bool.not_eq_true', Bool.not_eq_false', Bool.not_eq_eq_eq_not, Bool.not_true, Bool.not_false, Int.not_lt, Int.not_le] at hb2)
    obtain rfl : i = 32 := by omega
    refine GW_exit ?_
    refine GW_seq ?_
    refine GW_region ?_
    refine GL_rd (v := .slice _ _ _) (wn_none rfl) rfl (rd_move rfl rfl) ?_
    refine GL_rd (v := .slice _ _ _) (wn_none rfl) rfl (rd_assign rfl rfl) ?_
    refine GL_rd (v := .int _ _) (wn_none rfl) rfl (rd_assign rfl rfl) ?_
    refine GL_nil ?_
    refine GW_ret ?_
    have e : xs = putB r := by rw [hx, List.take_of_length_le (by rw [r.sum.2]; omega), putB_yes hc]; rfl
    subst e
    have en := row_n (hp.get 0 rfl)
    subst en
    have hp := ((hp.front 0 rfl).take 1)
    exact ⟨_, res2 Try.results39 (rv_tmp (v := .slice _ _ _) rfl rfl) (rv_tmp (v := .int _ _) rfl rfl), _, by rw [hc], hp⟩
  ·have hp := (((hp.front 1 rfl).front 1 rfl).take 2)
   refine ⟨_, slots3 rfl rfl rfl, hp, Nat.zero_le _, by omega, by rw [List.take_zero, List.append_nil]⟩

set_option maxRecDepth 100000 in
theorem aud_Sector (r : Rec) (w0 : World) (hz : r.actor.size ≤ 4294967296 ∧ r.reason.size ≤ 4294967296) : Does Try.prog 40 #[.agg ⟨recC r⟩] w0 fun v w' => v = .tuple #[.agg ⟨bys (secRec r)⟩, .int .i64 (checkR r)] ∧ Hp w0 [] w' [] := by
 refine does_of (l := [.agg ⟨recC r⟩]) Try.func40 (by kernel_rfl) rfl Try.ntmps40 rfl rfl ?_
 have hp := Hp.refl w0 []
 refine GW_seq ?_
 refine GW_region ?_
 refine GL_box (wn_none rfl) rfl rfl rfl rfl hp ?_
 intro g w hp
 refine GL_alloc (wn_none rfl) rfl rfl tz44 rfl hp ?_
 intro g2 w hp
 refine GL_rd (v := .int _ _) (wn_none rfl) rfl (rd_assign rfl rfl) ?_
 refine GL_nil ?_
 refine GW_seq ?_
 refine GW_region ?_
 refine GL_rd (wn_none rfl) rfl (rd_loadC rfl rfl Try.underlying59 rfl ts59 (hp.get 1 rfl) (recC_len _)) ?_
 refine GL_call (wn_none rfl) rfl rfl (aud_Put r _ hz) rfl ?_
 rintro _ w ⟨vb, rfl, hk⟩
 have hp := hp.comp hk
 refine GL_rd (v := .tuple _) (wn_none rfl) rfl (rd_move rfl rfl) ?_
 refine GL_rd (v := vb) (wn_none rfl) rfl (rd_extract rfl rfl rfl) ?_
 refine GL_rd (v := .int _ _) (wn_none rfl) rfl (rd_extract rfl rfl rfl) ?_
 refine GL_rd (v := vb) (wn_none rfl) rfl (rd_assign rfl rfl) ?_
 refine GL_rd (v := .int _ _) (wn_none rfl) rfl (rd_assign rfl rfl) ?_
 refine GL_nil ?_
 refine GW_seq ?_
 refine GW_seq ?_
 refine GW_region ?_
 refine GL_rd (v := .int _ _) (wn_none rfl) rfl (rd_move rfl rfl) ?_
 refine GL_rd (wn_none rfl) rfl (rd_bin rfl rfl rfl bo_neq) ?_
 refine GL_nil ?_
 refine GW_cond rfl (fun hb => ?_) (fun hb => ?_)
 ·(try simp only [decide_eq_true_eq, decide_eq_false_iff_not, Bool.not_eq_true', Bool.not_eq_false', Bool.not_eq_eq_eq_not, Bool.not_true, Bool.not_false, Int.not_lt, Int.not_le] at hb)
  have hc : ¬ checkR r = 0 := hb
  refine GW_seq ?_
  refine GW_region ?_
  refine GL_rd (wn_none rfl) rfl (rd_buildA (L := List.replicate 256 (.int .u8 0)) rfl tz44 Try.underlying44 ts5 (by kernel_rfl)) ?_
  refine GL_rd (v := .int _ _) (wn_none rfl) rfl (rd_move rfl rfl) ?_
  refine GL_store (i := 1) (wn_none rfl) rfl rfl rfl rfl ts44 rfl rfl (fun u hu => by rw [List.eq_of_mem_replicate hu]; rfl) hp rfl (by rw [List.length_replicate]; omega) (splice_all _ _ rfl) ?_
  intro w hp
  refine GL_rd (v := .int _ _) (wn_none rfl) rfl (rd_assign rfl rfl) ?_
  refine GL_nil ?_
  refine GW_ret ?_
  exact ⟨_, res2 Try.results40 (rv_cell rfl rfl Try.underlying44 rfl ts44 (by first | rw [bys_length, secRec_length] | exact List.length_replicate) (hp.get 1 rfl)) (rv_tmp (v := .int _ _) rfl rfl), by rw [secRec_no hc, bys_replicate] <;> rfl, hp.mods⟩
 ·(try simp only [decide_eq_true_eq, decide_eq_false_iff_not, Bool.not_eq_true', Bool.not_eq_false', Bool.not_eq_eq_eq_not, Bool.not_true, Bool.not_false, Int.not_lt, Int.not_le] at hb)
  have hc : checkR r = 0 := hb
  rw [putB_yes hc] at hp
  refine GW_skip ?_
  refine GW_seq ?_
  refine GW_region ?_
  refine GL_rd (v := vb) (wn_none rfl) rfl (rd_move rfl rfl) ?_
  refine GL_call (wn_none rfl) rfl rfl (word_Whole _ _ (bytesR r) _ (Sl.row (hp.get 0 rfl))) rfl ?_
  rintro _ w ⟨rfl, hk⟩
  have hp := hp.comp hk
  refine GL_alloc (wn_none rfl) rfl rfl tz44 rfl hp ?_
  intro g3 w hp
  refine GL_store (i := 0) (wn_none rfl) rfl rfl rfl rfl ts44 rfl (by rw [bys_length, wholeL_length]) (bys_one _) hp rfl (by rw [List.length_replicate]; omega) (splice_all _ _ (by rw [bys_length, wholeL_length, List.length_replicate])) ?_
  intro w hp
  refine GL_nil ?_
  refine GW_seq ?_
  refine GW_region ?_
  refine GL_rd (wn_none rfl) rfl (rd_sliceA (lo := 0) (hi := 252) rfl rfl Try.underlying44 ts5 at_none (at_some rfl rfl) (by decide) (by decide) (by decide) _ rfl) ?_
  refine GL_call (wn_none rfl) rfl rfl (crc_Sealed _ 252 ((wholeL (bytesR r)).take 252) _ (Sl.cells (hp.get 0 rfl) 1 252 256 0 (bys ((wholeL (bytesR r)).take 252)) (by rw [List.drop_zero, Nat.mul_one]; exact (bys_take _ _).symm) (by rw [bys_length, wholeL_length]; decide) (by decide) (by decide)) (by decide)) rfl ?_
  intro vS w hk
  have hp := hp.comp hk
  refine GL_call (wn_none rfl) rfl rfl (word_Whole _ _ _ _ (Sl.row (hp.get 0 rfl))) rfl ?_
  rintro _ w ⟨rfl, hk⟩
  have hp := hp.comp hk
  refine GL_store (i := 3) (wn_none rfl) rfl rfl rfl rfl ts44 rfl (by rw [bys_length, wholeL_length]) (bys_one _) hp rfl (by rw [List.length_replicate]; omega) ((splice_all _ _ (by rw [bys_length, wholeL_length, List.length_replicate])).trans (by rw [sec_made hc])) ?_
  intro w hp
  refine GL_rd (v := .int _ _) (wn_none rfl) rfl (rd_assign rfl rfl) ?_
  refine GL_nil ?_
  refine GW_ret ?_
  exact ⟨_, res2 Try.results40 (rv_cell rfl rfl Try.underlying44 rfl ts44 (by first | rw [bys_length, secRec_length] | exact List.length_replicate) (hp.get 3 rfl)) (rv_tmp (v := .int _ _) rfl rfl), by rw [hc], hp.mods⟩

set_option maxRecDepth 100000 in
theorem ref_audSector (r : Rec) (w0 : World) (hz : r.actor.size ≤ 4294967296 ∧ r.reason.size ≤ 4294967296) : Does Try.prog 41 #[.agg ⟨recC r⟩] w0 fun v w' => v = .tuple #[.agg ⟨bys (secRec r)⟩, .int .i64 (checkR r)] ∧ Hp w0 [] w' [] := by
 refine does_of (l := [.agg ⟨recC r⟩]) Try.func41 (by kernel_rfl) rfl Try.ntmps41 rfl rfl ?_
 have hp := Hp.refl w0 []
 refine GW_seq ?_
 refine GW_region ?_
 refine GL_box (wn_none rfl) rfl rfl rfl rfl hp ?_
 intro g w hp
 refine GL_alloc (wn_none rfl) rfl rfl tz44 rfl hp ?_
 intro g2 w hp
 refine GL_rd (v := .int _ _) (wn_none rfl) rfl (rd_assign rfl rfl) ?_
 refine GL_nil ?_
 refine GW_seq ?_
 refine GW_region ?_
 refine GL_rd (wn_none rfl) rfl (rd_loadC rfl rfl Try.underlying59 rfl ts59 (hp.get 1 rfl) (recC_len _)) ?_
 refine GL_call (wn_none rfl) rfl rfl (ref_audPut r _ hz) rfl ?_
 rintro _ w ⟨vb, rfl, hk⟩
 have hp := hp.comp hk
 refine GL_rd (v := .tuple _) (wn_none rfl) rfl (rd_move rfl rfl) ?_
 refine GL_rd (v := vb) (wn_none rfl) rfl (rd_extract rfl rfl rfl) ?_
 refine GL_rd (v := .int _ _) (wn_none rfl) rfl (rd_extract rfl rfl rfl) ?_
 refine GL_rd (v := vb) (wn_none rfl) rfl (rd_assign rfl rfl) ?_
 refine GL_rd (v := .int _ _) (wn_none rfl) rfl (rd_assign rfl rfl) ?_
 refine GL_nil ?_
 refine GW_seq ?_
 refine GW_seq ?_
 refine GW_region ?_
 refine GL_rd (v := .int _ _) (wn_none rfl) rfl (rd_move rfl rfl) ?_
 refine GL_rd (wn_none rfl) rfl (rd_bin rfl rfl rfl bo_neq) ?_
 refine GL_nil ?_
 refine GW_cond rfl (fun hb => ?_) (fun hb => ?_)
 ·(try simp only [decide_eq_true_eq, decide_eq_false_iff_not, Bool.not_eq_true', Bool.not_eq_false', Bool.not_eq_eq_eq_not, Bool.not_true, Bool.not_false, Int.not_lt, Int.not_le] at hb)
  have hc : ¬ checkR r = 0 := hb
  refine GW_seq ?_
  refine GW_region ?_
  refine GL_rd (wn_none rfl) rfl (rd_buildA (L := List.replicate 256 (.int .u8 0)) rfl tz44 Try.underlying44 ts5 (by kernel_rfl)) ?_
  refine GL_rd (v := .int _ _) (wn_none rfl) rfl (rd_move rfl rfl) ?_
  refine GL_store (i := 1) (wn_none rfl) rfl rfl rfl rfl ts44 rfl rfl (fun u hu => by rw [List.eq_of_mem_replicate hu]; rfl) hp rfl (by rw [List.length_replicate]; omega) (splice_all _ _ rfl) ?_
  intro w hp
  refine GL_rd (v := .int _ _) (wn_none rfl) rfl (rd_assign rfl rfl) ?_
  refine GL_nil ?_
  refine GW_ret ?_
  exact ⟨_, res2 Try.results41 (rv_cell rfl rfl Try.underlying44 rfl ts44 (by first | rw [bys_length, secRec_length] | exact List.length_replicate) (hp.get 1 rfl)) (rv_tmp (v := .int _ _) rfl rfl), by rw [secRec_no hc, bys_replicate] <;> rfl, hp.mods⟩
 ·(try simp only [decide_eq_true_eq, decide_eq_false_iff_not, Bool.not_eq_true', Bool.not_eq_false', Bool.not_eq_eq_eq_not, Bool.not_true, Bool.not_false, Int.not_lt, Int.not_le] at hb)
  have hc : checkR r = 0 := hb
  rw [putB_yes hc] at hp
  refine GW_skip ?_
  refine GW_seq ?_
  refine GW_region ?_
  refine GL_rd (v := vb) (wn_none rfl) rfl (rd_move rfl rfl) ?_
  refine GL_call (wn_none rfl) rfl rfl (ref_Sealed _ _ (bytesR r) _ (Sl.row (hp.get 0 rfl)) (by have := bytesR_le r; omega)) rfl ?_
  rintro _ w ⟨rfl, hk⟩
  have hp := hp.comp hk
  refine GL_store (i := 1) (wn_none rfl) rfl rfl rfl rfl ts44 rfl (by rw [bys_length, secL_length]) (bys_one _) hp rfl (by rw [List.length_replicate]; omega) ((splice_all _ _ (by rw [bys_length, secL_length, List.length_replicate])).trans (congrArg bys (secRec_yes hc).symm)) ?_
  intro w hp
  refine GL_rd (v := .int _ _) (wn_none rfl) rfl (rd_assign rfl rfl) ?_
  refine GL_nil ?_
  refine GW_ret ?_
  exact ⟨_, res2 Try.results41 (rv_cell rfl rfl Try.underlying44 rfl ts44 (by first | rw [bys_length, secRec_length] | exact List.length_replicate) (hp.get 1 rfl)) (rv_tmp (v := .int _ _) rfl rfl), by rw [hc], hp.mods⟩

set_option maxHeartbeats 1000000 in
theorem aud_Get (sv : Value) (m : Nat) (l : List UInt8) (w0 : World) (hs : Sl w0 sv 1 m (bys l)) (hm : m = 155) : Does Try.prog 104 #[sv] w0 fun v w' => v = .tuple #[.agg ⟨recC (getR l)⟩, .int .i64 (getE l)] ∧ Hp w0 [] w' [] := by
 obtain ⟨A, c, rfl⟩ := sl_shape hs
 have hml := hs.blen
 have hT := getL_lt ((l.drop 5).take 6)
 have hK := getL_lt ((l.drop 4).take 1)
 have h5 : ((l.drop 5).take 6).length = 6 := by rw [List.length_take, List.length_drop]; omega
 have h4 : ((l.drop 4).take 1).length = 1 := by rw [List.length_take, List.length_drop]; omega
 rw [h5, show (256 : Nat) ^ 6 = 281474976710656 from rfl] at hT
 rw [h4, show (256 : Nat) ^ 1 = 256 from rfl] at hK
 refine does_of (l := [.slice A m c]) Try.func104 (by kernel_rfl) rfl Try.ntmps104 rfl rfl ?_
 have hp := Hp.refl w0 []
 refine GW_seq ?_
 refine GW_region ?_
 refine GL_alloc (wn_none rfl) rfl rfl tz59 rfl hp ?_
 intro g w hp
 refine GL_rd (v := .int _ _) (wn_none rfl) rfl (rd_assign rfl rfl) ?_
 refine GL_nil ?_
 refine GW_seq ?_
 refine GW_region ?_
 refine GL_rd (v := .slice _ _ _) (wn_none rfl) rfl (rd_move rfl rfl) ?_
 refine GL_call (wn_none rfl) rfl rfl (word_From _ _ _ _) rfl ?_
 rintro _ w ⟨p, rfl, hk⟩
 have hp := hp.comp hk
 refine GL_rd (v := .pointer (some ⟨_, _, none⟩)) (wn_none rfl) rfl (rd_assign rfl rfl) ?_
 refine GL_nil ?_
 refine GW_seq ?_
 refine GW_seq ?_
 refine GW_region ?_
 refine GL_rd (v := .pointer (some ⟨_, _, none⟩)) (wn_none rfl) rfl (rd_move rfl rfl) ?_
 refine GL_call (wn_none rfl) rfl rfl (cur_Bytes p _ ((l.drop 0)) (false) 4 _ (hp.get 0 rfl) (fun w' h => ((hs.keep (hp.modAt 0 rfl h)).asLen (by simp only [List.drop_zero]; omega))) (by rw [List.length_drop]; omega)) rfl ?_
 rintro v w ⟨bv, hsuf, hk⟩
 have hp := hp.turnAtMore 0 rfl hk
 obtain ⟨Av, cv, rfl⟩ := row_shape (hp.get 0 rfl)
 have st1 : curOk false (l.drop 0) 4 = true ∧ curOut false (l.drop 0) 4 = (l.drop 0).take 4 ∧ curL false (l.drop 0) 4 = l.drop 4 := by have h := cur_step (l.drop 0) 4 (by rw [List.length_drop]; omega); rw [List.drop_drop] at h; exact h
 rw [st1.2.2] at hsuf
 rw [st1.2.1, st1.1, Bool.not_true] at hp
 rw [st1.2.1]
 refine GL_rd (wn_none rfl) rfl (rd_toStr rfl rfl Try.underlying39 Try.underlying9 Try.underlying5 (Sl.row (hp.get 0 rfl))) ?_
 refine GL_rd (wn_none rfl) rfl (rd_bin rfl rfl rfl bo_sneq) ?_
 refine GL_nil ?_
 refine GW_cond rfl (fun hb => ?_) (fun hb => ?_)
 ·(try simp only [decide_eq_true_eq, decide_eq_false_iff_not, Bool.not_eq_true', Bool.not_eq_false', Bool.not_eq_eq_eq_not, Bool.not_true, Bool.not_false, Int.not_lt, Int.not_le] at hb)
  have hh : ¬ l.take 4 = [65, 85, 68, 84] := fun e => hb (by rw [List.drop_zero, e])
  refine GW_seq ?_
  refine GW_region ?_
  refine GL_rd (wn_none rfl) rfl (rd_buildS (L := (recC recZ)) rfl tz59 pl59 (by kernel_rfl)) ?_
  refine GL_store (i := 2) (wn_none rfl) rfl rfl rfl rfl ts59 rfl (recC_len _) (recC_one _) hp rfl (by first | exact Nat.le_of_ble_eq_true rfl | (rw [recC_len]; decide)) (splice_all _ _ (by first | rw [recC_len, recC_len] | (rw [recC_len]; rfl))) ?_
  intro w hp
  refine GL_rd (v := .int _ _) (wn_none rfl) rfl (rd_assign rfl rfl) ?_
  refine GL_nil ?_
  refine GW_ret ?_
  have hno : grB l = false := grB_no (fun q => hh (by rw [q.1]))
  exact ⟨_, res2 Try.results104 (rv_cell rfl rfl Try.underlying59 rfl ts59 (recC_len _) (hp.get 2 rfl)) (rv_tmp (v := .int _ _) rfl rfl), by rw [(get_no hno).1, (get_no hno).2], hp.mods⟩
 ·(try simp only [decide_eq_true_eq, decide_eq_false_iff_not, Bool.not_eq_true', Bool.not_eq_false', Bool.not_eq_eq_eq_not, Bool.not_true, Bool.not_false, Int.not_lt, Int.not_le] at hb)
  have hh : l.take 4 = [65, 85, 68, 84] := by have h := hb; rw [List.drop_zero] at h; exact (str_eq _ [65, 85, 68, 84]).1 h
  refine GW_skip ?_
  refine GW_seq ?_
  rcases three_of (unpadOk (grA l)) (unpadOk (grQ l)) with ⟨hu, hq⟩ | ⟨hu, hq⟩ | hu
  ·skip
   refine GW_region ?_
   refine GL_rd (v := .pointer (some ⟨_, _, none⟩)) (wn_none rfl) rfl (rd_move rfl rfl) ?_
   refine GL_call (wn_none rfl) rfl rfl (cur_Num p _ ((l.drop 4)) (false) 1 _ (hp.get 1 rfl) (fun w' h => (hsuf w' ((hs.keep (hp.modAt 1 rfl h)).asLen (by simp only [List.drop_zero]; omega)))) (by rw [List.length_drop]; omega)) rfl ?_
   rintro _ w ⟨bv2, hsuf2, rfl, hk⟩
   have hp := hp.turnAtMore 1 rfl hk
   have st1 : curOk false (l.drop 4) 1 = true ∧ curOut false (l.drop 4) 1 = (l.drop 4).take 1 ∧ curL false (l.drop 4) 1 = l.drop 5 := by have h := cur_step (l.drop 4) 1 (by rw [List.length_drop]; omega); rw [List.drop_drop] at h; exact h
   rw [st1.2.2] at hsuf2
   rw [st1.1, Bool.not_true] at hp
   rw [show curNum false (l.drop 4) 1 = getL ((l.drop 4).take 1) from num_step (l.drop 4) 1 (by rw [List.length_drop]; omega) (by decide)]
   refine GL_rd (wn_none rfl) rfl (rd_convE (q := (getL ((l.drop 4).take 1) : Int)) rfl rfl Try.underlying3 Try.underlying160 (by simp) (IntWalk.i64_in _ (by omega))) ?_
   refine GL_rd (v := .pointer (some ⟨_, _, none⟩)) (wn_none rfl) rfl (rd_move rfl rfl) ?_
   refine GL_call (wn_none rfl) rfl rfl (cur_Num p _ ((l.drop 5)) (false) 6 _ (hp.get 0 rfl) (fun w' h => (hsuf2 w' (hsuf w' ((hs.keep (hp.modAt 0 rfl h)).asLen (by simp only [List.drop_zero]; omega))))) (by rw [List.length_drop]; omega)) rfl ?_
   rintro _ w ⟨bv3, hsuf3, rfl, hk⟩
   have hp := hp.turnAtMore 0 rfl hk
   have st1 : curOk false (l.drop 5) 6 = true ∧ curOut false (l.drop 5) 6 = (l.drop 5).take 6 ∧ curL false (l.drop 5) 6 = l.drop 11 := by have h := cur_step (l.drop 5) 6 (by rw [List.length_drop]; omega); rw [List.drop_drop] at h; exact h
   rw [st1.2.2] at hsuf3
   rw [st1.1, Bool.not_true] at hp
   rw [show curNum false (l.drop 5) 6 = getL ((l.drop 5).take 6) from num_step (l.drop 5) 6 (by rw [List.length_drop]; omega) (by decide)]
   refine GL_rd (wn_none rfl) rfl (rd_convE (q := (getL ((l.drop 5).take 6) : Int)) rfl rfl Try.underlying3 Try.underlying160 (by simp) (IntWalk.i64_in _ (by omega))) ?_
   refine GL_rd (v := .pointer (some ⟨_, _, none⟩)) (wn_none rfl) rfl (rd_move rfl rfl) ?_
   refine GL_call (wn_none rfl) rfl rfl (cur_Text p _ ((l.drop 11)) (false) 16 _ (hp.get 0 rfl) (fun w' h => (hsuf3 w' (hsuf2 w' (hsuf w' ((hs.keep (hp.modAt 0 rfl h)).asLen (by simp only [List.drop_zero]; omega)))))) (by rw [List.length_drop]; omega)) rfl ?_
   rintro _ w ⟨bv4, hsuf4, rfl, hk⟩
   have hp := hp.turnAtMore 0 rfl hk
   have st1 : curOk false (l.drop 11) 16 = true ∧ curOut false (l.drop 11) 16 = (l.drop 11).take 16 ∧ curL false (l.drop 11) 16 = l.drop 27 := by have h := cur_step (l.drop 11) 16 (by rw [List.length_drop]; omega); rw [List.drop_drop] at h; exact h
   have tb : curTextBad false (l.drop 11) 16 = false := by rw [curTextBad, st1.1, st1.2.1]; show (false || !unpadOk (grA l)) = _; rw [hu]; rfl
   rw [st1.2.2] at hsuf4
   rw [tb] at hp
   rw [show curText false (l.drop 11) 16 = unpadL (grA l) from by rw [curText, st1.2.1]; rfl]
   refine GL_rd (v := .pointer (some ⟨_, _, none⟩)) (wn_none rfl) rfl (rd_move rfl rfl) ?_
   refine GL_call (wn_none rfl) rfl rfl (cur_Text p _ ((l.drop 27)) (false) 32 _ (hp.get 0 rfl) (fun w' h => (hsuf4 w' (hsuf3 w' (hsuf2 w' (hsuf w' ((hs.keep (hp.modAt 0 rfl h)).asLen (by simp only [List.drop_zero]; omega))))))) (by rw [List.length_drop]; omega)) rfl ?_
   rintro _ w ⟨bv5, hsuf5, rfl, hk⟩
   have hp := hp.turnAtMore 0 rfl hk
   have st1 : curOk false (l.drop 27) 32 = true ∧ curOut false (l.drop 27) 32 = (l.drop 27).take 32 ∧ curL false (l.drop 27) 32 = l.drop 59 := by have h := cur_step (l.drop 27) 32 (by rw [List.length_drop]; omega); rw [List.drop_drop] at h; exact h
   have tb : curTextBad false (l.drop 27) 32 = false := by rw [curTextBad, st1.1, st1.2.1]; show (false || !unpadOk (grQ l)) = _; rw [hq]; rfl
   rw [st1.2.2] at hsuf5
   rw [tb] at hp
   rw [show curText false (l.drop 27) 32 = unpadL (grQ l) from by rw [curText, st1.2.1]; rfl]
   refine GL_rd (wn_none rfl) rfl (rd_buildF (L := (recC (⟨(getL ((l.drop 4).take 1) : Int), (getL ((l.drop 5).take 6) : Int), ⟨(unpadL (grA l)).toArray⟩, a32Z, ⟨(unpadL (grQ l)).toArray⟩, a32Z, a32Z⟩ : Rec))) rfl tz59 pl59 rfl (rec_fill _ _ _ _)) ?_
   refine GL_alloc (wn_none rfl) rfl rfl tz59 rfl hp ?_
   intro g2 w hp
   refine GL_store (i := 0) (wn_none rfl) rfl rfl rfl rfl ts59 rfl (recC_len _) (recC_one _) hp rfl (by first | exact Nat.le_of_ble_eq_true rfl | (rw [recC_len]; decide)) (splice_all _ _ (by first | rw [recC_len, recC_len] | (rw [recC_len]; rfl))) ?_
   intro w hp
   refine GL_nil ?_
   refine GW_seq ?_
   refine GW_drawnK 18 (.one 0 true (.one 4 true (.one 8 true (.one 1 false (.one 2 true (.one 3 true (.one 12 true (.one 5 false (.one 6 true (.one 7 true (.one 9 false (.one 10 true (.one 11 true (.one 13 false (.one 14 true (.one 15 false (.one 16 true (.one 17 false .nil)))))))))))))))))) mixed (by kernel_rfl) hp (fun _ h => h.mods) fun w hp => ?_
   have hpS := hp.mods
   refine GO_rdT (v := .pointer (some ⟨_, _, none⟩)) rfl (wn_none rfl) rfl (fun w => (rd_move rfl rfl)) ?_
   refine GO_rdT (v := .pointer (some ⟨_, _, none⟩)) rfl (wn_none rfl) rfl (fun w => (rd_move rfl rfl)) ?_
   refine GO_rdT (v := .pointer (some ⟨_, _, none⟩)) rfl (wn_none rfl) rfl (fun w => (rd_move rfl rfl)) ?_
   refine GO_of_GL rfl ?_
   refine GL_call (wn_none rfl) rfl rfl (cur_Bytes p _ ((l.drop 59)) (false) 32 _ (hp.get 1 rfl) (fun w' h => (hsuf5 w' (hsuf4 w' (hsuf3 w' (hsuf2 w' (hsuf w' ((hs.keep (hp.modAt 1 rfl h)).asLen (by simp only [List.drop_zero]; omega)))))))) (by rw [List.length_drop]; omega)) rfl ?_
   rintro v6 w ⟨bv6, hsuf6, hk⟩
   have hp := hp.turnAtMore 1 rfl hk
   obtain ⟨Av6, cv6, rfl⟩ := row_shape (hp.get 0 rfl)
   have st1 : curOk false (l.drop 59) 32 = true ∧ curOut false (l.drop 59) 32 = (l.drop 59).take 32 ∧ curL false (l.drop 59) 32 = l.drop 91 := by have h := cur_step (l.drop 59) 32 (by rw [List.length_drop]; omega); rw [List.drop_drop] at h; exact h
   rw [st1.2.2] at hsuf6
   rw [st1.2.1, st1.1, Bool.not_true] at hp
   rw [st1.2.1]
   have ce : (l.drop 59).take 32 = cut32 l 59 := (cut32_eq (by omega)).symm
   rw [ce] at hp
   rw [ce]
   obtain ⟨gB, bB, rfl⟩ := (Sl.row (hp.get 0 rfl)).addr (by rw [bys_length]; first | (rw [cut32_length]; decide) | (rw [List.length_replicate]; decide))
   have hpS2 := hp.mods
   refine GL_nil ⟨fun _ => hpS2, ?_⟩
   refine GO_grow hp (fun _ h => (h.sub (.cons_cons _ (.cons _ (.cons _ (.cons_cons _ (.cons _ .slnil))))))) (fun _ h => h.mods) fun hpS3 => ?_
   refine GO_rd (v := _) rfl rfl (wn_none rfl) rfl hpS3 (fun w hp => (rd_toArr rfl rfl Try.underlying57 (by first | (rw [cut32_length]; decide) | (rw [List.length_replicate]; decide)))) ?_
   refine GO_rd rfl rfl (wn_none rfl) rfl hpS3 (fun w hp => (rd_loadN (L := _) rfl rfl Try.underlying57 rfl ts57 (by rw [bys_length]; first | exact cut32_length _ _ | rfl) (fun jq u hj => (Sl.row (hp.get 0 rfl)).get jq u hj))) ?_
   refine GO_rdT rfl (wn_none rfl) rfl (fun w => (rd_field rfl rfl fa59_3 _ rfl)) ?_
   refine GO_of_GL rfl ?_
   refine GL_call (wn_none rfl) rfl rfl (cur_Bytes p _ ((l.drop 91)) (false) 32 _ (hp.get 1 rfl) (fun w' h => (hsuf6 w' (hsuf5 w' (hsuf4 w' (hsuf3 w' (hsuf2 w' (hsuf w' ((hs.keep (hp.modAt 1 rfl h)).asLen (by simp only [List.drop_zero]; omega))))))))) (by rw [List.length_drop]; omega)) rfl ?_
   rintro v7 w ⟨bv7, hsuf7, hk⟩
   have hp := hp.turnAtMore 1 rfl hk
   obtain ⟨Av7, cv7, rfl⟩ := row_shape (hp.get 0 rfl)
   have st1 : curOk false (l.drop 91) 32 = true ∧ curOut false (l.drop 91) 32 = (l.drop 91).take 32 ∧ curL false (l.drop 91) 32 = l.drop 123 := by have h := cur_step (l.drop 91) 32 (by rw [List.length_drop]; omega); rw [List.drop_drop] at h; exact h
   rw [st1.2.2] at hsuf7
   rw [st1.2.1, st1.1, Bool.not_true] at hp
   rw [st1.2.1]
   have ce : (l.drop 91).take 32 = cut32 l 91 := (cut32_eq (by omega)).symm
   rw [ce] at hp
   rw [ce]
   obtain ⟨gB, bB, rfl⟩ := (Sl.row (hp.get 0 rfl)).addr (by rw [bys_length]; first | (rw [cut32_length]; decide) | (rw [List.length_replicate]; decide))
   have hpS4 := (hp.sub (.cons _ (.cons _ (.cons_cons _ (.cons _ (.cons_cons _ (.cons _ .slnil)))))))
   refine GL_nil ⟨fun _ => hpS4, ?_⟩
   refine GO_grow hp (fun _ h => (h.sub (.cons_cons _ (.cons _ (.cons_cons _ (.cons _ (.cons_cons _ (.cons _ .slnil)))))))) (fun _ h => (h.sub (.cons _ (.cons_cons _ (.cons_cons _ .slnil))))) fun hpS5 => ?_
   refine GO_rd (v := _) rfl rfl (wn_none rfl) rfl hpS5 (fun w hp => (rd_toArr rfl rfl Try.underlying57 (by first | (rw [cut32_length]; decide) | (rw [List.length_replicate]; decide)))) ?_
   refine GO_rd rfl rfl (wn_none rfl) rfl hpS5 (fun w hp => (rd_loadN (L := _) rfl rfl Try.underlying57 rfl ts57 (by rw [bys_length]; first | exact cut32_length _ _ | rfl) (fun jq u hj => (Sl.row (hp.get 0 rfl)).get jq u hj))) ?_
   refine GO_of_GL rfl ?_
   refine GL_call (wn_none rfl) rfl rfl (cur_Bytes p _ ((l.drop 123)) (false) 32 _ (hp.get 1 rfl) (fun w' h => (hsuf7 w' (hsuf6 w' (hsuf5 w' (hsuf4 w' (hsuf3 w' (hsuf2 w' (hsuf w' ((hs.keep (hp.modAt 1 rfl h)).asLen (by simp only [List.drop_zero]; omega)))))))))) (by rw [List.length_drop]; omega)) rfl ?_
   rintro v8 w ⟨bv8, hsuf8, hk⟩
   have hp := hp.turnAtMore 1 rfl hk
   obtain ⟨Av8, cv8, rfl⟩ := row_shape (hp.get 0 rfl)
   have st1 : curOk false (l.drop 123) 32 = true ∧ curOut false (l.drop 123) 32 = (l.drop 123).take 32 ∧ curL false (l.drop 123) 32 = l.drop 155 := by have h := cur_step (l.drop 123) 32 (by rw [List.length_drop]; omega); rw [List.drop_drop] at h; exact h
   rw [st1.2.2] at hsuf8
   rw [st1.2.1, st1.1, Bool.not_true] at hp
   rw [st1.2.1]
   have ce : (l.drop 123).take 32 = cut32 l 123 := (cut32_eq (by omega)).symm
   rw [ce] at hp
   rw [ce]
   obtain ⟨gB, bB, rfl⟩ := (Sl.row (hp.get 0 rfl)).addr (by rw [bys_length]; first | (rw [cut32_length]; decide) | (rw [List.length_replicate]; decide))
   have hpS6 := (hp.sub (.cons _ (.cons _ (.cons_cons _ (.cons_cons _ (.cons _ (.cons_cons _ (.cons _ .slnil))))))))
   refine GL_nil ⟨fun _ => hpS6, ?_⟩
   refine GO_grow hp (fun _ h => (h.sub (.cons_cons _ (.cons _ (.cons_cons _ (.cons_cons _ (.cons _ (.cons_cons _ (.cons _ .slnil))))))))) (fun _ h => (h.sub (.cons _ (.cons_cons _ (.cons_cons _ (.cons_cons _ .slnil)))))) fun hpS7 => ?_
   refine GO_rd (v := _) rfl rfl (wn_none rfl) rfl hpS7 (fun w hp => (rd_toArr rfl rfl Try.underlying57 (by first | (rw [cut32_length]; decide) | (rw [List.length_replicate]; decide)))) ?_
   refine GO_rd rfl rfl (wn_none rfl) rfl hpS7 (fun w hp => (rd_loadN (L := _) rfl rfl Try.underlying57 rfl ts57 (by rw [bys_length]; first | exact cut32_length _ _ | rfl) (fun jq u hj => (Sl.row (hp.get 0 rfl)).get jq u hj))) ?_
   refine GO_of_GL rfl ?_
   refine GL_store (i := 4) (wn_none rfl) rfl rfl rfl rfl ts57 rfl (by rw [bys_length]; first | exact cut32_length _ _ | rfl) (bys_one _) hp rfl (by rw [recC_len]; decide) (rec_setClip _ (⟨cut32 l 59, cut32_length _ _⟩ : A32)) ?_
   intro w hp
   have hpS8 := (hp.sub (.cons_cons _ (.cons _ (.cons_cons _ (.cons_cons _ (.cons _ (.cons_cons _ (.cons _ .slnil))))))))
   refine GL_nil ⟨fun _ => hpS8, ?_⟩
   refine GO_rdT rfl (wn_none rfl) rfl (fun w => (rd_field rfl rfl fa59_5 _ rfl)) ?_
   refine GO_of_GL rfl ?_
   refine GL_store (i := 4) (wn_none rfl) rfl rfl rfl rfl ts57 rfl (by rw [bys_length]; first | exact cut32_length _ _ | rfl) (bys_one _) hp rfl (by rw [recC_len]; decide) (rec_setPrev _ (⟨cut32 l 91, cut32_length _ _⟩ : A32)) ?_
   intro w hp
   have hpS9 := (hp.sub (.cons_cons _ (.cons _ (.cons_cons _ (.cons_cons _ (.cons _ (.cons_cons _ (.cons _ .slnil))))))))
   refine GL_nil ⟨fun _ => hpS9, ?_⟩
   refine GO_rdT rfl (wn_none rfl) rfl (fun w => (rd_field rfl rfl fa59_6 _ rfl)) ?_
   refine GO_of_GL rfl ?_
   refine GL_store (i := 4) (wn_none rfl) rfl rfl rfl rfl ts57 rfl (by rw [bys_length]; first | exact cut32_length _ _ | rfl) (bys_one _) hp rfl (by rw [recC_len]; decide) (rec_setSum _ (⟨cut32 l 123, cut32_length _ _⟩ : A32)) ?_
   intro w hp
   have hpS10 := (hp.sub (.cons_cons _ (.cons _ (.cons_cons _ (.cons_cons _ (.cons _ (.cons_cons _ (.cons _ .slnil))))))))
   refine GL_nil ⟨fun _ => hpS10, ?_⟩
   refine GO_nil ?_
   refine GW_seq ?_
   refine GW_seq ?_
   refine GW_region ?_
   refine GL_rd (v := .slice _ _ _) (wn_none rfl) rfl (rd_move rfl rfl) ?_
   refine GL_rd (wn_none rfl) rfl (rd_len rfl rfl Try.underlying39) ?_
   refine GL_rd (wn_none rfl) rfl (rd_bin rfl rfl rfl bo_neq) ?_
   refine GL_rd (v := .bool _) (wn_none rfl) rfl (rd_move rfl rfl) ?_
   refine GL_split (t := 42) (b := _) rfl ?_ ?_
   ·intro hb2; (try simp only [decide_eq_true_eq, decide_eq_false_iff_not, Bool.not_eq_true', Bool.not_eq_false', Bool.not_eq_eq_eq_not, Bool.not_true, Bool.not_false, Int.not_lt, Int.not_le] at hb2)
    exact absurd hb2 (by omega)
   ·intro hb2; (try simp only [decide_eq_true_eq, decide_eq_false_iff_not, Bool.not_eq_true', Bool.not_eq_false', Bool.not_eq_eq_eq_not, Bool.not_true, Bool.not_false, Int.not_lt, Int.not_le] at hb2)
    refine GL_rd (v := .pointer (some ⟨_, _, none⟩)) (wn_on rfl rfl rfl rfl) rfl (rd_move rfl rfl) ?_
    refine GL_call (wn_on rfl rfl rfl rfl) rfl rfl (cur_Right p _ ((l.drop 155)) (false) _ (hp.get 1 rfl) (fun w' h => (hsuf8 w' (hsuf7 w' (hsuf6 w' (hsuf5 w' (hsuf4 w' (hsuf3 w' (hsuf2 w' (hsuf w' ((hs.keep (hp.modAt 1 rfl h)).asLen (by simp only [List.drop_zero]; omega)))))))))))) rfl ?_
    rintro _ w ⟨rfl, hk⟩
    have hp := hp.comp hk
    refine GL_rd (wn_on rfl rfl rfl rfl) rfl (rd_not rfl rfl) ?_
    refine GL_rd (v := .bool _) (wn_none rfl) rfl (rd_pickF rfl rfl rfl) ?_
    refine GL_rd (v := .bool _) (wn_none rfl) rfl (rd_move rfl rfl) ?_
    refine GL_split (t := 47) (b := _) rfl ?_ ?_
    ·intro hb3; (try simp only [decide_eq_true_eq, decide_eq_false_iff_not, Bool.not_eq_true', Bool.not_eq_false', Bool.not_eq_eq_eq_not, Bool.not_true, Bool.not_false, Int.not_lt, Int.not_le] at hb3)
     cases hb3
    ·intro hb3; (try simp only [decide_eq_true_eq, decide_eq_false_iff_not, Bool.not_eq_true', Bool.not_eq_false', Bool.not_eq_eq_eq_not, Bool.not_true, Bool.not_false, Int.not_lt, Int.not_le] at hb3)
     refine GL_rd (wn_on rfl rfl rfl rfl) rfl (rd_loadC rfl rfl Try.underlying59 rfl ts59 (hp.get 4 rfl) (recC_len _)) ?_
     refine GL_call (wn_on rfl rfl rfl rfl) rfl rfl (aud_Check (gr l) _ ⟨by have h1 := unpadL_le (b := grA l); have h2 : (grA l).length ≤ 16 := List.length_take_le _ _; show (unpadL (grA l)).length ≤ _; omega, by have h1 := unpadL_le (b := grQ l); have h2 : (grQ l).length ≤ 32 := List.length_take_le _ _; show (unpadL (grQ l)).length ≤ _; omega⟩) rfl ?_
     rintro _ w ⟨rfl, hk⟩
     have hp := hp.comp hk
     refine GL_rd (wn_on rfl rfl rfl rfl) rfl (rd_bin rfl rfl rfl bo_neq) ?_
     refine GL_rd (v := .bool _) (wn_none rfl) rfl (rd_pickF rfl rfl rfl) ?_
     refine GL_nil ?_
     refine GW_cond rfl (fun hb4 => ?_) (fun hb4 => ?_)
     ·(try simp only [decide_eq_true_eq, decide_eq_false_iff_not, Bool.not_eq_true', Bool.not_eq_false', Bool.not_eq_eq_eq_not, Bool.not_true, Bool.not_false, Int.not_lt, Int.not_le] at hb4)
      have hck : ¬ checkR (gr l) = 0 := hb4
      refine GW_seq ?_
      refine GW_region ?_
      refine GL_rd (wn_none rfl) rfl (rd_buildS (L := (recC recZ)) rfl tz59 pl59 (by kernel_rfl)) ?_
      refine GL_store (i := 6) (wn_none rfl) rfl rfl rfl rfl ts59 rfl (recC_len _) (recC_one _) hp rfl (by first | exact Nat.le_of_ble_eq_true rfl | (rw [recC_len]; decide)) (splice_all _ _ (by first | rw [recC_len, recC_len] | (rw [recC_len]; rfl))) ?_
      intro w hp
      refine GL_rd (v := .int _ _) (wn_none rfl) rfl (rd_assign rfl rfl) ?_
      refine GL_nil ?_
      refine GW_ret ?_
      have hno : grB l = false := grB_no (fun q => by first | exact absurd (hu.symm.trans q.2.1) (by decide) | exact absurd (hq.symm.trans q.2.2.1) (by decide) | exact hck q.2.2.2)
      exact ⟨_, res2 Try.results104 (rv_cell rfl rfl Try.underlying59 rfl ts59 (recC_len _) (hp.get 6 rfl)) (rv_tmp (v := .int _ _) rfl rfl), by rw [(get_no hno).1, (get_no hno).2], hp.mods⟩
     ·(try simp only [decide_eq_true_eq, decide_eq_false_iff_not, Bool.not_eq_true', Bool.not_eq_false', Bool.not_eq_eq_eq_not, Bool.not_true, Bool.not_false, Int.not_lt, Int.not_le] at hb4)
      have hck : checkR (gr l) = 0 := hb4
      refine GW_skip ?_
      refine GW_seq ?_
      refine GW_region ?_
      refine GL_rd (wn_none rfl) rfl (rd_loadC rfl rfl Try.underlying59 rfl ts59 (hp.get 4 rfl) (recC_len _)) ?_
      refine GL_store (i := 6) (wn_none rfl) rfl rfl rfl rfl ts59 rfl (recC_len _) (recC_one _) hp rfl (by first | exact Nat.le_of_ble_eq_true rfl | (rw [recC_len]; decide)) (splice_all _ _ (by first | rw [recC_len, recC_len] | (rw [recC_len]; rfl))) ?_
      intro w hp
      refine GL_rd (v := .int _ _) (wn_none rfl) rfl (rd_assign rfl rfl) ?_
      refine GL_nil ?_
      refine GW_ret ?_
      have hy : grB l = true := grB_iff.2 ⟨hh, hu, hq, hck⟩
      exact ⟨_, res2 Try.results104 (rv_cell rfl rfl Try.underlying59 rfl ts59 (recC_len _) (hp.get 6 rfl)) (rv_tmp (v := .int _ _) rfl rfl), by rw [(get_yes hy).1, (get_yes hy).2]; rfl, hp.mods⟩
  ·skip
   refine GW_region ?_
   refine GL_rd (v := .pointer (some ⟨_, _, none⟩)) (wn_none rfl) rfl (rd_move rfl rfl) ?_
   refine GL_call (wn_none rfl) rfl rfl (cur_Num p _ ((l.drop 4)) (false) 1 _ (hp.get 1 rfl) (fun w' h => (hsuf w' ((hs.keep (hp.modAt 1 rfl h)).asLen (by simp only [List.drop_zero]; omega)))) (by rw [List.length_drop]; omega)) rfl ?_
   rintro _ w ⟨bv9, hsuf9, rfl, hk⟩
   have hp := hp.turnAtMore 1 rfl hk
   have st1 : curOk false (l.drop 4) 1 = true ∧ curOut false (l.drop 4) 1 = (l.drop 4).take 1 ∧ curL false (l.drop 4) 1 = l.drop 5 := by have h := cur_step (l.drop 4) 1 (by rw [List.length_drop]; omega); rw [List.drop_drop] at h; exact h
   rw [st1.2.2] at hsuf9
   rw [st1.1, Bool.not_true] at hp
   rw [show curNum false (l.drop 4) 1 = getL ((l.drop 4).take 1) from num_step (l.drop 4) 1 (by rw [List.length_drop]; omega) (by decide)]
   refine GL_rd (wn_none rfl) rfl (rd_convE (q := (getL ((l.drop 4).take 1) : Int)) rfl rfl Try.underlying3 Try.underlying160 (by simp) (IntWalk.i64_in _ (by omega))) ?_
   refine GL_rd (v := .pointer (some ⟨_, _, none⟩)) (wn_none rfl) rfl (rd_move rfl rfl) ?_
   refine GL_call (wn_none rfl) rfl rfl (cur_Num p _ ((l.drop 5)) (false) 6 _ (hp.get 0 rfl) (fun w' h => (hsuf9 w' (hsuf w' ((hs.keep (hp.modAt 0 rfl h)).asLen (by simp only [List.drop_zero]; omega))))) (by rw [List.length_drop]; omega)) rfl ?_
   rintro _ w ⟨bv10, hsuf10, rfl, hk⟩
   have hp := hp.turnAtMore 0 rfl hk
   have st1 : curOk false (l.drop 5) 6 = true ∧ curOut false (l.drop 5) 6 = (l.drop 5).take 6 ∧ curL false (l.drop 5) 6 = l.drop 11 := by have h := cur_step (l.drop 5) 6 (by rw [List.length_drop]; omega); rw [List.drop_drop] at h; exact h
   rw [st1.2.2] at hsuf10
   rw [st1.1, Bool.not_true] at hp
   rw [show curNum false (l.drop 5) 6 = getL ((l.drop 5).take 6) from num_step (l.drop 5) 6 (by rw [List.length_drop]; omega) (by decide)]
   refine GL_rd (wn_none rfl) rfl (rd_convE (q := (getL ((l.drop 5).take 6) : Int)) rfl rfl Try.underlying3 Try.underlying160 (by simp) (IntWalk.i64_in _ (by omega))) ?_
   refine GL_rd (v := .pointer (some ⟨_, _, none⟩)) (wn_none rfl) rfl (rd_move rfl rfl) ?_
   refine GL_call (wn_none rfl) rfl rfl (cur_Text p _ ((l.drop 11)) (false) 16 _ (hp.get 0 rfl) (fun w' h => (hsuf10 w' (hsuf9 w' (hsuf w' ((hs.keep (hp.modAt 0 rfl h)).asLen (by simp only [List.drop_zero]; omega)))))) (by rw [List.length_drop]; omega)) rfl ?_
   rintro _ w ⟨bv11, hsuf11, rfl, hk⟩
   have hp := hp.turnAtMore 0 rfl hk
   have st1 : curOk false (l.drop 11) 16 = true ∧ curOut false (l.drop 11) 16 = (l.drop 11).take 16 ∧ curL false (l.drop 11) 16 = l.drop 27 := by have h := cur_step (l.drop 11) 16 (by rw [List.length_drop]; omega); rw [List.drop_drop] at h; exact h
   have tb : curTextBad false (l.drop 11) 16 = false := by rw [curTextBad, st1.1, st1.2.1]; show (false || !unpadOk (grA l)) = _; rw [hu]; rfl
   rw [st1.2.2] at hsuf11
   rw [tb] at hp
   rw [show curText false (l.drop 11) 16 = unpadL (grA l) from by rw [curText, st1.2.1]; rfl]
   refine GL_rd (v := .pointer (some ⟨_, _, none⟩)) (wn_none rfl) rfl (rd_move rfl rfl) ?_
   refine GL_call (wn_none rfl) rfl rfl (cur_Text p _ ((l.drop 27)) (false) 32 _ (hp.get 0 rfl) (fun w' h => (hsuf11 w' (hsuf10 w' (hsuf9 w' (hsuf w' ((hs.keep (hp.modAt 0 rfl h)).asLen (by simp only [List.drop_zero]; omega))))))) (by rw [List.length_drop]; omega)) rfl ?_
   rintro _ w ⟨bv12, hsuf12, rfl, hk⟩
   have hp := hp.turnAtMore 0 rfl hk
   have st1 : curOk false (l.drop 27) 32 = true ∧ curOut false (l.drop 27) 32 = (l.drop 27).take 32 ∧ curL false (l.drop 27) 32 = l.drop 59 := by have h := cur_step (l.drop 27) 32 (by rw [List.length_drop]; omega); rw [List.drop_drop] at h; exact h
   have tb : curTextBad false (l.drop 27) 32 = true := by rw [curTextBad, st1.1, st1.2.1]; show (false || !unpadOk (grQ l)) = _; rw [hq]; rfl
   rw [st1.2.2] at hsuf12
   rw [tb] at hp
   rw [show curText false (l.drop 27) 32 = unpadL (grQ l) from by rw [curText, st1.2.1]; rfl]
   refine GL_rd (wn_none rfl) rfl (rd_buildF (L := (recC (⟨(getL ((l.drop 4).take 1) : Int), (getL ((l.drop 5).take 6) : Int), ⟨(unpadL (grA l)).toArray⟩, a32Z, ⟨(unpadL (grQ l)).toArray⟩, a32Z, a32Z⟩ : Rec))) rfl tz59 pl59 rfl (rec_fill _ _ _ _)) ?_
   refine GL_alloc (wn_none rfl) rfl rfl tz59 rfl hp ?_
   intro g3 w hp
   refine GL_store (i := 0) (wn_none rfl) rfl rfl rfl rfl ts59 rfl (recC_len _) (recC_one _) hp rfl (by first | exact Nat.le_of_ble_eq_true rfl | (rw [recC_len]; decide)) (splice_all _ _ (by first | rw [recC_len, recC_len] | (rw [recC_len]; rfl))) ?_
   intro w hp
   refine GL_nil ?_
   refine GW_seq ?_
   refine GW_drawnK 18 (.one 0 true (.one 4 true (.one 8 true (.one 1 false (.one 2 true (.one 3 true (.one 12 true (.one 5 false (.one 6 true (.one 7 true (.one 9 false (.one 10 true (.one 11 true (.one 13 false (.one 14 true (.one 15 false (.one 16 true (.one 17 false .nil)))))))))))))))))) mixed (by kernel_rfl) hp (fun _ h => h.mods) fun w hp => ?_
   have hpS11 := hp.mods
   refine GO_rdT (v := .pointer (some ⟨_, _, none⟩)) rfl (wn_none rfl) rfl (fun w => (rd_move rfl rfl)) ?_
   refine GO_rdT (v := .pointer (some ⟨_, _, none⟩)) rfl (wn_none rfl) rfl (fun w => (rd_move rfl rfl)) ?_
   refine GO_rdT (v := .pointer (some ⟨_, _, none⟩)) rfl (wn_none rfl) rfl (fun w => (rd_move rfl rfl)) ?_
   refine GO_of_GL rfl ?_
   refine GL_call (wn_none rfl) rfl rfl (cur_Bytes p _ ((l.drop 59)) (true) 32 _ (hp.get 1 rfl) (fun w' h => (hsuf12 w' (hsuf11 w' (hsuf10 w' (hsuf9 w' (hsuf w' ((hs.keep (hp.modAt 1 rfl h)).asLen (by simp only [List.drop_zero]; omega)))))))) (by rw [List.length_drop]; omega)) rfl ?_
   rintro v13 w ⟨bv13, hsuf13, hk⟩
   have hp := hp.turnAtMore 1 rfl hk
   obtain ⟨Av13, cv13, rfl⟩ := row_shape (hp.get 0 rfl)
   rw [cur_badL] at hsuf13
   rw [cur_badO, cur_badK, Bool.not_false] at hp
   rw [cur_badO]
   obtain ⟨gB, bB, rfl⟩ := (Sl.row (hp.get 0 rfl)).addr (by rw [bys_length]; first | (rw [cut32_length]; decide) | (rw [List.length_replicate]; decide))
   have hpS12 := hp.mods
   refine GL_nil ⟨fun _ => hpS12, ?_⟩
   refine GO_grow hp (fun _ h => (h.sub (.cons_cons _ (.cons _ (.cons _ (.cons_cons _ (.cons _ .slnil))))))) (fun _ h => h.mods) fun hpS13 => ?_
   refine GO_rd (v := _) rfl rfl (wn_none rfl) rfl hpS13 (fun w hp => (rd_toArr rfl rfl Try.underlying57 (by first | (rw [cut32_length]; decide) | (rw [List.length_replicate]; decide)))) ?_
   refine GO_rd rfl rfl (wn_none rfl) rfl hpS13 (fun w hp => (rd_loadN (L := _) rfl rfl Try.underlying57 rfl ts57 (by rw [bys_length]; first | exact cut32_length _ _ | rfl) (fun jq u hj => (Sl.row (hp.get 0 rfl)).get jq u hj))) ?_
   refine GO_rdT rfl (wn_none rfl) rfl (fun w => (rd_field rfl rfl fa59_3 _ rfl)) ?_
   refine GO_of_GL rfl ?_
   refine GL_call (wn_none rfl) rfl rfl (cur_Bytes p _ ((l.drop 59)) (true) 32 _ (hp.get 1 rfl) (fun w' h => (hsuf13 w' (hsuf12 w' (hsuf11 w' (hsuf10 w' (hsuf9 w' (hsuf w' ((hs.keep (hp.modAt 1 rfl h)).asLen (by simp only [List.drop_zero]; omega))))))))) (by rw [List.length_drop]; omega)) rfl ?_
   rintro v14 w ⟨bv14, hsuf14, hk⟩
   have hp := hp.turnAtMore 1 rfl hk
   obtain ⟨Av14, cv14, rfl⟩ := row_shape (hp.get 0 rfl)
   rw [cur_badL] at hsuf14
   rw [cur_badO, cur_badK, Bool.not_false] at hp
   rw [cur_badO]
   obtain ⟨gB, bB, rfl⟩ := (Sl.row (hp.get 0 rfl)).addr (by rw [bys_length]; first | (rw [cut32_length]; decide) | (rw [List.length_replicate]; decide))
   have hpS14 := (hp.sub (.cons _ (.cons _ (.cons_cons _ (.cons _ (.cons_cons _ (.cons _ .slnil)))))))
   refine GL_nil ⟨fun _ => hpS14, ?_⟩
   refine GO_grow hp (fun _ h => (h.sub (.cons_cons _ (.cons _ (.cons_cons _ (.cons _ (.cons_cons _ (.cons _ .slnil)))))))) (fun _ h => (h.sub (.cons _ (.cons_cons _ (.cons_cons _ .slnil))))) fun hpS15 => ?_
   refine GO_rd (v := _) rfl rfl (wn_none rfl) rfl hpS15 (fun w hp => (rd_toArr rfl rfl Try.underlying57 (by first | (rw [cut32_length]; decide) | (rw [List.length_replicate]; decide)))) ?_
   refine GO_rd rfl rfl (wn_none rfl) rfl hpS15 (fun w hp => (rd_loadN (L := _) rfl rfl Try.underlying57 rfl ts57 (by rw [bys_length]; first | exact cut32_length _ _ | rfl) (fun jq u hj => (Sl.row (hp.get 0 rfl)).get jq u hj))) ?_
   refine GO_of_GL rfl ?_
   refine GL_call (wn_none rfl) rfl rfl (cur_Bytes p _ ((l.drop 59)) (true) 32 _ (hp.get 1 rfl) (fun w' h => (hsuf14 w' (hsuf13 w' (hsuf12 w' (hsuf11 w' (hsuf10 w' (hsuf9 w' (hsuf w' ((hs.keep (hp.modAt 1 rfl h)).asLen (by simp only [List.drop_zero]; omega)))))))))) (by rw [List.length_drop]; omega)) rfl ?_
   rintro v15 w ⟨bv15, hsuf15, hk⟩
   have hp := hp.turnAtMore 1 rfl hk
   obtain ⟨Av15, cv15, rfl⟩ := row_shape (hp.get 0 rfl)
   rw [cur_badL] at hsuf15
   rw [cur_badO, cur_badK, Bool.not_false] at hp
   rw [cur_badO]
   obtain ⟨gB, bB, rfl⟩ := (Sl.row (hp.get 0 rfl)).addr (by rw [bys_length]; first | (rw [cut32_length]; decide) | (rw [List.length_replicate]; decide))
   have hpS16 := (hp.sub (.cons _ (.cons _ (.cons_cons _ (.cons_cons _ (.cons _ (.cons_cons _ (.cons _ .slnil))))))))
   refine GL_nil ⟨fun _ => hpS16, ?_⟩
   refine GO_grow hp (fun _ h => (h.sub (.cons_cons _ (.cons _ (.cons_cons _ (.cons_cons _ (.cons _ (.cons_cons _ (.cons _ .slnil))))))))) (fun _ h => (h.sub (.cons _ (.cons_cons _ (.cons_cons _ (.cons_cons _ .slnil)))))) fun hpS17 => ?_
   refine GO_rd (v := _) rfl rfl (wn_none rfl) rfl hpS17 (fun w hp => (rd_toArr rfl rfl Try.underlying57 (by first | (rw [cut32_length]; decide) | (rw [List.length_replicate]; decide)))) ?_
   refine GO_rd rfl rfl (wn_none rfl) rfl hpS17 (fun w hp => (rd_loadN (L := _) rfl rfl Try.underlying57 rfl ts57 (by rw [bys_length]; first | exact cut32_length _ _ | rfl) (fun jq u hj => (Sl.row (hp.get 0 rfl)).get jq u hj))) ?_
   refine GO_of_GL rfl ?_
   refine GL_store (i := 4) (wn_none rfl) rfl rfl rfl rfl ts57 rfl (by rw [bys_length]; first | exact cut32_length _ _ | rfl) (bys_one _) hp rfl (by rw [recC_len]; decide) (rec_setClip _ a32Z) ?_
   intro w hp
   have hpS18 := (hp.sub (.cons_cons _ (.cons _ (.cons_cons _ (.cons_cons _ (.cons _ (.cons_cons _ (.cons _ .slnil))))))))
   refine GL_nil ⟨fun _ => hpS18, ?_⟩
   refine GO_rdT rfl (wn_none rfl) rfl (fun w => (rd_field rfl rfl fa59_5 _ rfl)) ?_
   refine GO_of_GL rfl ?_
   refine GL_store (i := 4) (wn_none rfl) rfl rfl rfl rfl ts57 rfl (by rw [bys_length]; first | exact cut32_length _ _ | rfl) (bys_one _) hp rfl (by rw [recC_len]; decide) (rec_setPrev _ a32Z) ?_
   intro w hp
   have hpS19 := (hp.sub (.cons_cons _ (.cons _ (.cons_cons _ (.cons_cons _ (.cons _ (.cons_cons _ (.cons _ .slnil))))))))
   refine GL_nil ⟨fun _ => hpS19, ?_⟩
   refine GO_rdT rfl (wn_none rfl) rfl (fun w => (rd_field rfl rfl fa59_6 _ rfl)) ?_
   refine GO_of_GL rfl ?_
   refine GL_store (i := 4) (wn_none rfl) rfl rfl rfl rfl ts57 rfl (by rw [bys_length]; first | exact cut32_length _ _ | rfl) (bys_one _) hp rfl (by rw [recC_len]; decide) (rec_setSum _ a32Z) ?_
   intro w hp
   have hpS20 := (hp.sub (.cons_cons _ (.cons _ (.cons_cons _ (.cons_cons _ (.cons _ (.cons_cons _ (.cons _ .slnil))))))))
   refine GL_nil ⟨fun _ => hpS20, ?_⟩
   refine GO_nil ?_
   refine GW_seq ?_
   refine GW_seq ?_
   refine GW_region ?_
   refine GL_rd (v := .slice _ _ _) (wn_none rfl) rfl (rd_move rfl rfl) ?_
   refine GL_rd (wn_none rfl) rfl (rd_len rfl rfl Try.underlying39) ?_
   refine GL_rd (wn_none rfl) rfl (rd_bin rfl rfl rfl bo_neq) ?_
   refine GL_rd (v := .bool _) (wn_none rfl) rfl (rd_move rfl rfl) ?_
   refine GL_split (t := 42) (b := _) rfl ?_ ?_
   ·intro hb5; (try simp only [decide_eq_true_eq, decide_eq_false_iff_not, Bool.not_eq_true', Bool.not_eq_false', Bool.not_eq_eq_eq_not, Bool.not_true, Bool.not_false, Int.not_lt, Int.not_le] at hb5)
    exact absurd hb5 (by omega)
   ·intro hb5; (try simp only [decide_eq_true_eq, decide_eq_false_iff_not, Bool.not_eq_true', Bool.not_eq_false', Bool.not_eq_eq_eq_not, Bool.not_true, Bool.not_false, Int.not_lt, Int.not_le] at hb5)
    refine GL_rd (v := .pointer (some ⟨_, _, none⟩)) (wn_on rfl rfl rfl rfl) rfl (rd_move rfl rfl) ?_
    refine GL_call (wn_on rfl rfl rfl rfl) rfl rfl (cur_Right p _ ((l.drop 59)) (true) _ (hp.get 1 rfl) (fun w' h => (hsuf15 w' (hsuf14 w' (hsuf13 w' (hsuf12 w' (hsuf11 w' (hsuf10 w' (hsuf9 w' (hsuf w' ((hs.keep (hp.modAt 1 rfl h)).asLen (by simp only [List.drop_zero]; omega)))))))))))) rfl ?_
    rintro _ w ⟨rfl, hk⟩
    have hp := hp.comp hk
    refine GL_rd (wn_on rfl rfl rfl rfl) rfl (rd_not rfl rfl) ?_
    refine GL_rd (v := .bool _) (wn_none rfl) rfl (rd_pickF rfl rfl rfl) ?_
    refine GL_rd (v := .bool _) (wn_none rfl) rfl (rd_move rfl rfl) ?_
    refine GL_split (t := 47) (b := _) rfl ?_ ?_
    ·intro hb6; (try simp only [decide_eq_true_eq, decide_eq_false_iff_not, Bool.not_eq_true', Bool.not_eq_false', Bool.not_eq_eq_eq_not, Bool.not_true, Bool.not_false, Int.not_lt, Int.not_le] at hb6)
     refine GL_pass (nw_off rfl rfl rfl rfl rfl) rfl ?_
     refine GL_pass (nw_off rfl rfl rfl rfl rfl) rfl ?_
     refine GL_pass (nw_off rfl rfl rfl rfl rfl) rfl ?_
     refine GL_rd (v := .bool _) (wn_none rfl) rfl (rd_pickT rfl rfl rfl) ?_
     refine GL_nil ?_
     refine GW_true rfl ?_
     refine GW_seq ?_
     refine GW_region ?_
     refine GL_rd (wn_none rfl) rfl (rd_buildS (L := (recC recZ)) rfl tz59 pl59 (by kernel_rfl)) ?_
     refine GL_store (i := 6) (wn_none rfl) rfl rfl rfl rfl ts59 rfl (recC_len _) (recC_one _) hp rfl (by first | exact Nat.le_of_ble_eq_true rfl | (rw [recC_len]; decide)) (splice_all _ _ (by first | rw [recC_len, recC_len] | (rw [recC_len]; rfl))) ?_
     intro w hp
     refine GL_rd (v := .int _ _) (wn_none rfl) rfl (rd_assign rfl rfl) ?_
     refine GL_nil ?_
     refine GW_ret ?_
     have hno : grB l = false := grB_no (fun q => by first | exact absurd (hu.symm.trans q.2.1) (by decide) | exact absurd (hq.symm.trans q.2.2.1) (by decide) | exact hck q.2.2.2)
     exact ⟨_, res2 Try.results104 (rv_cell rfl rfl Try.underlying59 rfl ts59 (recC_len _) (hp.get 6 rfl)) (rv_tmp (v := .int _ _) rfl rfl), by rw [(get_no hno).1, (get_no hno).2], hp.mods⟩
    ·intro hb6; (try simp only [decide_eq_true_eq, decide_eq_false_iff_not, Bool.not_eq_true', Bool.not_eq_false', Bool.not_eq_eq_eq_not, Bool.not_true, Bool.not_false, Int.not_lt, Int.not_le] at hb6)
     cases hb6
  ·skip
   refine GW_region ?_
   refine GL_rd (v := .pointer (some ⟨_, _, none⟩)) (wn_none rfl) rfl (rd_move rfl rfl) ?_
   refine GL_call (wn_none rfl) rfl rfl (cur_Num p _ ((l.drop 4)) (false) 1 _ (hp.get 1 rfl) (fun w' h => (hsuf w' ((hs.keep (hp.modAt 1 rfl h)).asLen (by simp only [List.drop_zero]; omega)))) (by rw [List.length_drop]; omega)) rfl ?_
   rintro _ w ⟨bv16, hsuf16, rfl, hk⟩
   have hp := hp.turnAtMore 1 rfl hk
   have st1 : curOk false (l.drop 4) 1 = true ∧ curOut false (l.drop 4) 1 = (l.drop 4).take 1 ∧ curL false (l.drop 4) 1 = l.drop 5 := by have h := cur_step (l.drop 4) 1 (by rw [List.length_drop]; omega); rw [List.drop_drop] at h; exact h
   rw [st1.2.2] at hsuf16
   rw [st1.1, Bool.not_true] at hp
   rw [show curNum false (l.drop 4) 1 = getL ((l.drop 4).take 1) from num_step (l.drop 4) 1 (by rw [List.length_drop]; omega) (by decide)]
   refine GL_rd (wn_none rfl) rfl (rd_convE (q := (getL ((l.drop 4).take 1) : Int)) rfl rfl Try.underlying3 Try.underlying160 (by simp) (IntWalk.i64_in _ (by omega))) ?_
   refine GL_rd (v := .pointer (some ⟨_, _, none⟩)) (wn_none rfl) rfl (rd_move rfl rfl) ?_
   refine GL_call (wn_none rfl) rfl rfl (cur_Num p _ ((l.drop 5)) (false) 6 _ (hp.get 0 rfl) (fun w' h => (hsuf16 w' (hsuf w' ((hs.keep (hp.modAt 0 rfl h)).asLen (by simp only [List.drop_zero]; omega))))) (by rw [List.length_drop]; omega)) rfl ?_
   rintro _ w ⟨bv17, hsuf17, rfl, hk⟩
   have hp := hp.turnAtMore 0 rfl hk
   have st1 : curOk false (l.drop 5) 6 = true ∧ curOut false (l.drop 5) 6 = (l.drop 5).take 6 ∧ curL false (l.drop 5) 6 = l.drop 11 := by have h := cur_step (l.drop 5) 6 (by rw [List.length_drop]; omega); rw [List.drop_drop] at h; exact h
   rw [st1.2.2] at hsuf17
   rw [st1.1, Bool.not_true] at hp
   rw [show curNum false (l.drop 5) 6 = getL ((l.drop 5).take 6) from num_step (l.drop 5) 6 (by rw [List.length_drop]; omega) (by decide)]
   refine GL_rd (wn_none rfl) rfl (rd_convE (q := (getL ((l.drop 5).take 6) : Int)) rfl rfl Try.underlying3 Try.underlying160 (by simp) (IntWalk.i64_in _ (by omega))) ?_
   refine GL_rd (v := .pointer (some ⟨_, _, none⟩)) (wn_none rfl) rfl (rd_move rfl rfl) ?_
   refine GL_call (wn_none rfl) rfl rfl (cur_Text p _ ((l.drop 11)) (false) 16 _ (hp.get 0 rfl) (fun w' h => (hsuf17 w' (hsuf16 w' (hsuf w' ((hs.keep (hp.modAt 0 rfl h)).asLen (by simp only [List.drop_zero]; omega)))))) (by rw [List.length_drop]; omega)) rfl ?_
   rintro _ w ⟨bv18, hsuf18, rfl, hk⟩
   have hp := hp.turnAtMore 0 rfl hk
   have st1 : curOk false (l.drop 11) 16 = true ∧ curOut false (l.drop 11) 16 = (l.drop 11).take 16 ∧ curL false (l.drop 11) 16 = l.drop 27 := by have h := cur_step (l.drop 11) 16 (by rw [List.length_drop]; omega); rw [List.drop_drop] at h; exact h
   have tb : curTextBad false (l.drop 11) 16 = true := by rw [curTextBad, st1.1, st1.2.1]; show (false || !unpadOk (grA l)) = _; rw [hu]; rfl
   rw [st1.2.2] at hsuf18
   rw [tb] at hp
   rw [show curText false (l.drop 11) 16 = unpadL (grA l) from by rw [curText, st1.2.1]; rfl]
   refine GL_rd (v := .pointer (some ⟨_, _, none⟩)) (wn_none rfl) rfl (rd_move rfl rfl) ?_
   refine GL_call (wn_none rfl) rfl rfl (cur_Text p _ ((l.drop 27)) (true) 32 _ (hp.get 0 rfl) (fun w' h => (hsuf18 w' (hsuf17 w' (hsuf16 w' (hsuf w' ((hs.keep (hp.modAt 0 rfl h)).asLen (by simp only [List.drop_zero]; omega))))))) (by rw [List.length_drop]; omega)) rfl ?_
   rintro _ w ⟨bv19, hsuf19, rfl, hk⟩
   have hp := hp.turnAtMore 0 rfl hk
   rw [cur_badL] at hsuf19
   rw [cur_badT] at hp
   rw [curText_true]
   refine GL_rd (wn_none rfl) rfl (rd_buildF (L := (recC (⟨(getL ((l.drop 4).take 1) : Int), (getL ((l.drop 5).take 6) : Int), ⟨(unpadL (grA l)).toArray⟩, a32Z, ⟨([] : List UInt8).toArray⟩, a32Z, a32Z⟩ : Rec))) rfl tz59 pl59 rfl (rec_fill _ _ _ _)) ?_
   refine GL_alloc (wn_none rfl) rfl rfl tz59 rfl hp ?_
   intro g4 w hp
   refine GL_store (i := 0) (wn_none rfl) rfl rfl rfl rfl ts59 rfl (recC_len _) (recC_one _) hp rfl (by first | exact Nat.le_of_ble_eq_true rfl | (rw [recC_len]; decide)) (splice_all _ _ (by first | rw [recC_len, recC_len] | (rw [recC_len]; rfl))) ?_
   intro w hp
   refine GL_nil ?_
   refine GW_seq ?_
   refine GW_drawnK 18 (.one 0 true (.one 4 true (.one 8 true (.one 1 false (.one 2 true (.one 3 true (.one 12 true (.one 5 false (.one 6 true (.one 7 true (.one 9 false (.one 10 true (.one 11 true (.one 13 false (.one 14 true (.one 15 false (.one 16 true (.one 17 false .nil)))))))))))))))))) mixed (by kernel_rfl) hp (fun _ h => h.mods) fun w hp => ?_
   have hpS21 := hp.mods
   refine GO_rdT (v := .pointer (some ⟨_, _, none⟩)) rfl (wn_none rfl) rfl (fun w => (rd_move rfl rfl)) ?_
   refine GO_rdT (v := .pointer (some ⟨_, _, none⟩)) rfl (wn_none rfl) rfl (fun w => (rd_move rfl rfl)) ?_
   refine GO_rdT (v := .pointer (some ⟨_, _, none⟩)) rfl (wn_none rfl) rfl (fun w => (rd_move rfl rfl)) ?_
   refine GO_of_GL rfl ?_
   refine GL_call (wn_none rfl) rfl rfl (cur_Bytes p _ ((l.drop 27)) (true) 32 _ (hp.get 1 rfl) (fun w' h => (hsuf19 w' (hsuf18 w' (hsuf17 w' (hsuf16 w' (hsuf w' ((hs.keep (hp.modAt 1 rfl h)).asLen (by simp only [List.drop_zero]; omega)))))))) (by rw [List.length_drop]; omega)) rfl ?_
   rintro v20 w ⟨bv20, hsuf20, hk⟩
   have hp := hp.turnAtMore 1 rfl hk
   obtain ⟨Av20, cv20, rfl⟩ := row_shape (hp.get 0 rfl)
   rw [cur_badL] at hsuf20
   rw [cur_badO, cur_badK, Bool.not_false] at hp
   rw [cur_badO]
   obtain ⟨gB, bB, rfl⟩ := (Sl.row (hp.get 0 rfl)).addr (by rw [bys_length]; first | (rw [cut32_length]; decide) | (rw [List.length_replicate]; decide))
   have hpS22 := hp.mods
   refine GL_nil ⟨fun _ => hpS22, ?_⟩
   refine GO_grow hp (fun _ h => (h.sub (.cons_cons _ (.cons _ (.cons _ (.cons_cons _ (.cons _ .slnil))))))) (fun _ h => h.mods) fun hpS23 => ?_
   refine GO_rd (v := _) rfl rfl (wn_none rfl) rfl hpS23 (fun w hp => (rd_toArr rfl rfl Try.underlying57 (by first | (rw [cut32_length]; decide) | (rw [List.length_replicate]; decide)))) ?_
   refine GO_rd rfl rfl (wn_none rfl) rfl hpS23 (fun w hp => (rd_loadN (L := _) rfl rfl Try.underlying57 rfl ts57 (by rw [bys_length]; first | exact cut32_length _ _ | rfl) (fun jq u hj => (Sl.row (hp.get 0 rfl)).get jq u hj))) ?_
   refine GO_rdT rfl (wn_none rfl) rfl (fun w => (rd_field rfl rfl fa59_3 _ rfl)) ?_
   refine GO_of_GL rfl ?_
   refine GL_call (wn_none rfl) rfl rfl (cur_Bytes p _ ((l.drop 27)) (true) 32 _ (hp.get 1 rfl) (fun w' h => (hsuf20 w' (hsuf19 w' (hsuf18 w' (hsuf17 w' (hsuf16 w' (hsuf w' ((hs.keep (hp.modAt 1 rfl h)).asLen (by simp only [List.drop_zero]; omega))))))))) (by rw [List.length_drop]; omega)) rfl ?_
   rintro v21 w ⟨bv21, hsuf21, hk⟩
   have hp := hp.turnAtMore 1 rfl hk
   obtain ⟨Av21, cv21, rfl⟩ := row_shape (hp.get 0 rfl)
   rw [cur_badL] at hsuf21
   rw [cur_badO, cur_badK, Bool.not_false] at hp
   rw [cur_badO]
   obtain ⟨gB, bB, rfl⟩ := (Sl.row (hp.get 0 rfl)).addr (by rw [bys_length]; first | (rw [cut32_length]; decide) | (rw [List.length_replicate]; decide))
   have hpS24 := (hp.sub (.cons _ (.cons _ (.cons_cons _ (.cons _ (.cons_cons _ (.cons _ .slnil)))))))
   refine GL_nil ⟨fun _ => hpS24, ?_⟩
   refine GO_grow hp (fun _ h => (h.sub (.cons_cons _ (.cons _ (.cons_cons _ (.cons _ (.cons_cons _ (.cons _ .slnil)))))))) (fun _ h => (h.sub (.cons _ (.cons_cons _ (.cons_cons _ .slnil))))) fun hpS25 => ?_
   refine GO_rd (v := _) rfl rfl (wn_none rfl) rfl hpS25 (fun w hp => (rd_toArr rfl rfl Try.underlying57 (by first | (rw [cut32_length]; decide) | (rw [List.length_replicate]; decide)))) ?_
   refine GO_rd rfl rfl (wn_none rfl) rfl hpS25 (fun w hp => (rd_loadN (L := _) rfl rfl Try.underlying57 rfl ts57 (by rw [bys_length]; first | exact cut32_length _ _ | rfl) (fun jq u hj => (Sl.row (hp.get 0 rfl)).get jq u hj))) ?_
   refine GO_of_GL rfl ?_
   refine GL_call (wn_none rfl) rfl rfl (cur_Bytes p _ ((l.drop 27)) (true) 32 _ (hp.get 1 rfl) (fun w' h => (hsuf21 w' (hsuf20 w' (hsuf19 w' (hsuf18 w' (hsuf17 w' (hsuf16 w' (hsuf w' ((hs.keep (hp.modAt 1 rfl h)).asLen (by simp only [List.drop_zero]; omega)))))))))) (by rw [List.length_drop]; omega)) rfl ?_
   rintro v22 w ⟨bv22, hsuf22, hk⟩
   have hp := hp.turnAtMore 1 rfl hk
   obtain ⟨Av22, cv22, rfl⟩ := row_shape (hp.get 0 rfl)
   rw [cur_badL] at hsuf22
   rw [cur_badO, cur_badK, Bool.not_false] at hp
   rw [cur_badO]
   obtain ⟨gB, bB, rfl⟩ := (Sl.row (hp.get 0 rfl)).addr (by rw [bys_length]; first | (rw [cut32_length]; decide) | (rw [List.length_replicate]; decide))
   have hpS26 := (hp.sub (.cons _ (.cons _ (.cons_cons _ (.cons_cons _ (.cons _ (.cons_cons _ (.cons _ .slnil))))))))
   refine GL_nil ⟨fun _ => hpS26, ?_⟩
   refine GO_grow hp (fun _ h => (h.sub (.cons_cons _ (.cons _ (.cons_cons _ (.cons_cons _ (.cons _ (.cons_cons _ (.cons _ .slnil))))))))) (fun _ h => (h.sub (.cons _ (.cons_cons _ (.cons_cons _ (.cons_cons _ .slnil)))))) fun hpS27 => ?_
   refine GO_rd (v := _) rfl rfl (wn_none rfl) rfl hpS27 (fun w hp => (rd_toArr rfl rfl Try.underlying57 (by first | (rw [cut32_length]; decide) | (rw [List.length_replicate]; decide)))) ?_
   refine GO_rd rfl rfl (wn_none rfl) rfl hpS27 (fun w hp => (rd_loadN (L := _) rfl rfl Try.underlying57 rfl ts57 (by rw [bys_length]; first | exact cut32_length _ _ | rfl) (fun jq u hj => (Sl.row (hp.get 0 rfl)).get jq u hj))) ?_
   refine GO_of_GL rfl ?_
   refine GL_store (i := 4) (wn_none rfl) rfl rfl rfl rfl ts57 rfl (by rw [bys_length]; first | exact cut32_length _ _ | rfl) (bys_one _) hp rfl (by rw [recC_len]; decide) (rec_setClip _ a32Z) ?_
   intro w hp
   have hpS28 := (hp.sub (.cons_cons _ (.cons _ (.cons_cons _ (.cons_cons _ (.cons _ (.cons_cons _ (.cons _ .slnil))))))))
   refine GL_nil ⟨fun _ => hpS28, ?_⟩
   refine GO_rdT rfl (wn_none rfl) rfl (fun w => (rd_field rfl rfl fa59_5 _ rfl)) ?_
   refine GO_of_GL rfl ?_
   refine GL_store (i := 4) (wn_none rfl) rfl rfl rfl rfl ts57 rfl (by rw [bys_length]; first | exact cut32_length _ _ | rfl) (bys_one _) hp rfl (by rw [recC_len]; decide) (rec_setPrev _ a32Z) ?_
   intro w hp
   have hpS29 := (hp.sub (.cons_cons _ (.cons _ (.cons_cons _ (.cons_cons _ (.cons _ (.cons_cons _ (.cons _ .slnil))))))))
   refine GL_nil ⟨fun _ => hpS29, ?_⟩
   refine GO_rdT rfl (wn_none rfl) rfl (fun w => (rd_field rfl rfl fa59_6 _ rfl)) ?_
   refine GO_of_GL rfl ?_
   refine GL_store (i := 4) (wn_none rfl) rfl rfl rfl rfl ts57 rfl (by rw [bys_length]; first | exact cut32_length _ _ | rfl) (bys_one _) hp rfl (by rw [recC_len]; decide) (rec_setSum _ a32Z) ?_
   intro w hp
   have hpS30 := (hp.sub (.cons_cons _ (.cons _ (.cons_cons _ (.cons_cons _ (.cons _ (.cons_cons _ (.cons _ .slnil))))))))
   refine GL_nil ⟨fun _ => hpS30, ?_⟩
   refine GO_nil ?_
   refine GW_seq ?_
   refine GW_seq ?_
   refine GW_region ?_
   refine GL_rd (v := .slice _ _ _) (wn_none rfl) rfl (rd_move rfl rfl) ?_
   refine GL_rd (wn_none rfl) rfl (rd_len rfl rfl Try.underlying39) ?_
   refine GL_rd (wn_none rfl) rfl (rd_bin rfl rfl rfl bo_neq) ?_
   refine GL_rd (v := .bool _) (wn_none rfl) rfl (rd_move rfl rfl) ?_
   refine GL_split (t := 42) (b := _) rfl ?_ ?_
   ·intro hb7; (try simp only [decide_eq_true_eq, decide_eq_false_iff_not, Bool.not_eq_true', Bool.not_eq_false', Bool.not_eq_eq_eq_not, Bool.not_true, Bool.not_false, Int.not_lt, Int.not_le] at hb7)
    exact absurd hb7 (by omega)
   ·intro hb7; (try simp only [decide_eq_true_eq, decide_eq_false_iff_not, Bool.not_eq_true', Bool.not_eq_false', Bool.not_eq_eq_eq_not, Bool.not_true, Bool.not_false, Int.not_lt, Int.not_le] at hb7)
    refine GL_rd (v := .pointer (some ⟨_, _, none⟩)) (wn_on rfl rfl rfl rfl) rfl (rd_move rfl rfl) ?_
    refine GL_call (wn_on rfl rfl rfl rfl) rfl rfl (cur_Right p _ ((l.drop 27)) (true) _ (hp.get 1 rfl) (fun w' h => (hsuf22 w' (hsuf21 w' (hsuf20 w' (hsuf19 w' (hsuf18 w' (hsuf17 w' (hsuf16 w' (hsuf w' ((hs.keep (hp.modAt 1 rfl h)).asLen (by simp only [List.drop_zero]; omega)))))))))))) rfl ?_
    rintro _ w ⟨rfl, hk⟩
    have hp := hp.comp hk
    refine GL_rd (wn_on rfl rfl rfl rfl) rfl (rd_not rfl rfl) ?_
    refine GL_rd (v := .bool _) (wn_none rfl) rfl (rd_pickF rfl rfl rfl) ?_
    refine GL_rd (v := .bool _) (wn_none rfl) rfl (rd_move rfl rfl) ?_
    refine GL_split (t := 47) (b := _) rfl ?_ ?_
    ·intro hb8; (try simp only [decide_eq_true_eq, decide_eq_false_iff_not, Bool.not_eq_true', Bool.not_eq_false', Bool.not_eq_eq_eq_not, Bool.not_true, Bool.not_false, Int.not_lt, Int.not_le] at hb8)
     refine GL_pass (nw_off rfl rfl rfl rfl rfl) rfl ?_
     refine GL_pass (nw_off rfl rfl rfl rfl rfl) rfl ?_
     refine GL_pass (nw_off rfl rfl rfl rfl rfl) rfl ?_
     refine GL_rd (v := .bool _) (wn_none rfl) rfl (rd_pickT rfl rfl rfl) ?_
     refine GL_nil ?_
     refine GW_true rfl ?_
     refine GW_seq ?_
     refine GW_region ?_
     refine GL_rd (wn_none rfl) rfl (rd_buildS (L := (recC recZ)) rfl tz59 pl59 (by kernel_rfl)) ?_
     refine GL_store (i := 6) (wn_none rfl) rfl rfl rfl rfl ts59 rfl (recC_len _) (recC_one _) hp rfl (by first | exact Nat.le_of_ble_eq_true rfl | (rw [recC_len]; decide)) (splice_all _ _ (by first | rw [recC_len, recC_len] | (rw [recC_len]; rfl))) ?_
     intro w hp
     refine GL_rd (v := .int _ _) (wn_none rfl) rfl (rd_assign rfl rfl) ?_
     refine GL_nil ?_
     refine GW_ret ?_
     have hno : grB l = false := grB_no (fun q => by first | exact absurd (hu.symm.trans q.2.1) (by decide) | exact absurd (hq.symm.trans q.2.2.1) (by decide) | exact hck q.2.2.2)
     exact ⟨_, res2 Try.results104 (rv_cell rfl rfl Try.underlying59 rfl ts59 (recC_len _) (hp.get 6 rfl)) (rv_tmp (v := .int _ _) rfl rfl), by rw [(get_no hno).1, (get_no hno).2], hp.mods⟩
    ·intro hb8; (try simp only [decide_eq_true_eq, decide_eq_false_iff_not, Bool.not_eq_true', Bool.not_eq_false', Bool.not_eq_eq_eq_not, Bool.not_true, Bool.not_false, Int.not_lt, Int.not_le] at hb8)
     cases hb8

set_option maxRecDepth 100000 in
theorem aud_Of (x : List UInt8) (w0 : World) (hx : x.length = 256) : Does Try.prog 58 #[.agg ⟨bys x⟩] w0 fun v w' => v = .tuple #[.agg ⟨recC (ofR x)⟩, .bool (ofB' x), .int .i64 (ofE x)] ∧ Hp w0 [] w' [] := by
 refine does_of (l := [.agg ⟨bys x⟩]) Try.func58 (by kernel_rfl) rfl Try.ntmps58 rfl rfl ?_
 have hp := Hp.refl w0 []
 refine GW_seq ?_
 refine GW_region ?_
 refine GL_box (wn_none rfl) rfl rfl rfl rfl hp ?_
 intro g w hp
 refine GL_alloc (wn_none rfl) rfl rfl tz59 rfl hp ?_
 intro g2 w hp
 refine GL_rd (v := .bool _) (wn_none rfl) rfl (rd_assign rfl rfl) ?_
 refine GL_rd (v := .int _ _) (wn_none rfl) rfl (rd_assign rfl rfl) ?_
 refine GL_nil ?_
 refine GW_seq ?_
 refine GW_seq ?_
 refine GW_region ?_
 refine GL_rd (wn_none rfl) rfl (rd_loadC rfl rfl Try.underlying44 rfl ts44 (hp.get 1 rfl) (by rw [bys_length, hx])) ?_
 refine GL_rd (wn_none rfl) rfl (rd_buildA (L := (bys (List.replicate 256 0))) rfl tz44 Try.underlying44 ts5 (by kernel_rfl)) ?_
 refine GL_rd (wn_none rfl) rfl (rd_bin rfl rfl rfl (bo_arrB Try.underlying44 Try.underlying5 ts5 (by kernel_rfl) hx List.length_replicate).1) ?_
 refine GL_nil ?_
 refine GW_cond rfl (fun hb => ?_) (fun hb => ?_)
 ·(try simp only [decide_eq_true_eq, decide_eq_false_iff_not, Bool.not_eq_true', Bool.not_eq_false', Bool.not_eq_eq_eq_not, Bool.not_true, Bool.not_false, Int.not_lt, Int.not_le] at hb)
  have hz : x = List.replicate 256 0 := hb
  refine GW_seq ?_
  refine GW_region ?_
  refine GL_rd (wn_none rfl) rfl (rd_buildS (L := (recC recZ)) rfl tz59 pl59 (by kernel_rfl)) ?_
  refine GL_store (i := 0) (wn_none rfl) rfl rfl rfl rfl ts59 rfl (recC_len _) (recC_one _) hp rfl (by first | exact Nat.le_of_ble_eq_true rfl | (rw [recC_len]; decide)) (splice_all _ _ (by first | rw [recC_len, recC_len] | (rw [recC_len]; rfl))) ?_
  intro w hp
  refine GL_rd (v := .bool _) (wn_none rfl) rfl (rd_assign rfl rfl) ?_
  refine GL_rd (v := .int _ _) (wn_none rfl) rfl (rd_assign rfl rfl) ?_
  refine GL_nil ?_
  refine GW_ret ?_
  have ho := of_zero hz
  exact ⟨_, res3 Try.results58 (rv_cell rfl rfl Try.underlying59 rfl ts59 (recC_len _) (hp.get 0 rfl)) (rv_tmp (v := .bool _) rfl rfl) (rv_tmp (v := .int _ _) rfl rfl), by rw [ho.1, ho.2.1, ho.2.2], hp.mods⟩
 ·(try simp only [decide_eq_true_eq, decide_eq_false_iff_not, Bool.not_eq_true', Bool.not_eq_false', Bool.not_eq_eq_eq_not, Bool.not_true, Bool.not_false, Int.not_lt, Int.not_le] at hb)
  have hz : ¬ x = List.replicate 256 0 := hb
  refine GW_skip ?_
  refine GW_seq ?_
  refine GW_region ?_
  refine GL_rd (wn_none rfl) rfl (rd_sliceA (lo := 0) (hi := 155) rfl rfl Try.underlying44 ts5 at_none (at_some rfl rfl) (by decide) (by decide) (by decide) _ rfl) ?_
  refine GL_call (wn_none rfl) rfl rfl (aud_Get _ 155 (x.take 155) _ (Sl.cells (hp.get 1 rfl) 1 155 256 0 (bys (x.take 155)) (by rw [List.drop_zero, bys_take]) (by rw [bys_length, hx]; decide) (by decide) (by decide)) rfl) rfl ?_
  rintro _ w ⟨rfl, hk⟩
  have hp := hp.comp hk
  refine GL_rd (v := .tuple _) (wn_none rfl) rfl (rd_move rfl rfl) ?_
  refine GL_rd (v := .agg ⟨_⟩) (wn_none rfl) rfl (rd_extract rfl rfl rfl) ?_
  refine GL_rd (v := .int _ _) (wn_none rfl) rfl (rd_extract rfl rfl rfl) ?_
  refine GL_alloc (wn_none rfl) rfl rfl tz59 rfl hp ?_
  intro g3 w hp
  refine GL_store (i := 0) (wn_none rfl) rfl rfl rfl rfl ts59 rfl (recC_len _) (recC_one _) hp rfl (by first | exact Nat.le_of_ble_eq_true rfl | (rw [recC_len]; decide)) (splice_all _ _ (by first | rw [recC_len, recC_len] | (rw [recC_len]; rfl))) ?_
  intro w hp
  refine GL_rd (v := .int _ _) (wn_none rfl) rfl (rd_assign rfl rfl) ?_
  refine GL_nil ?_
  refine GW_seq ?_
  refine GW_seq ?_
  refine GW_region ?_
  refine GL_rd (v := .int _ _) (wn_none rfl) rfl (rd_move rfl rfl) ?_
  refine GL_rd (wn_none rfl) rfl (rd_bin rfl rfl rfl bo_neq) ?_
  refine GL_rd (v := .bool _) (wn_none rfl) rfl (rd_move rfl rfl) ?_
  refine GL_split (t := 18) (b := _) rfl ?_ ?_
  ·intro hb2; (try simp only [decide_eq_true_eq, decide_eq_false_iff_not, Bool.not_eq_true', Bool.not_eq_false', Bool.not_eq_eq_eq_not, Bool.not_true, Bool.not_false, Int.not_lt, Int.not_le] at hb2)
   have hg : ¬ grB (x.take 155) = true := fun q => hb2 (get_yes q).2
   refine GL_pass (nw_off rfl rfl rfl rfl rfl) rfl ?_
   refine GL_pass (nw_off rfl rfl rfl rfl rfl) rfl ?_
   refine GL_pass (nw_off rfl rfl rfl rfl rfl) rfl ?_
   refine GL_rd (v := .bool _) (wn_none rfl) rfl (rd_pickT rfl rfl rfl) ?_
   refine GL_rd (v := .bool _) (wn_none rfl) rfl (rd_move rfl rfl) ?_
   refine GL_pass (nw_off rfl rfl rfl rfl rfl) rfl ?_
   refine GL_pass (nw_off rfl rfl rfl rfl rfl) rfl ?_
   refine GL_pass (nw_off rfl rfl rfl rfl rfl) rfl ?_
   refine GL_rd (v := .bool _) (wn_none rfl) rfl (rd_pickT rfl rfl rfl) ?_
   refine GL_nil ?_
   refine GW_true rfl ?_
   refine GW_seq ?_
   refine GW_region ?_
   refine GL_rd (wn_none rfl) rfl (rd_buildS (L := (recC recZ)) rfl tz59 pl59 (by kernel_rfl)) ?_
   refine GL_store (i := 1) (wn_none rfl) rfl rfl rfl rfl ts59 rfl (recC_len _) (recC_one _) hp rfl (by first | exact Nat.le_of_ble_eq_true rfl | (rw [recC_len]; decide)) (splice_all _ _ (by first | rw [recC_len, recC_len] | (rw [recC_len]; rfl))) ?_
   intro w hp
   refine GL_rd (v := .bool _) (wn_none rfl) rfl (rd_assign rfl rfl) ?_
   refine GL_rd (v := .int _ _) (wn_none rfl) rfl (rd_assign rfl rfl) ?_
   refine GL_nil ?_
   refine GW_ret ?_
   have hno : ofB' x = false := ofB_no (fun q => by first | exact hg q.1 | exact hh q.2.1 | exact hzz q.2.2)
   have ho := of_no hno hz
   exact ⟨_, res3 Try.results58 (rv_cell rfl rfl Try.underlying59 rfl ts59 (recC_len _) (hp.get 1 rfl)) (rv_tmp (v := .bool _) rfl rfl) (rv_tmp (v := .int _ _) rfl rfl), by rw [ho.1, hno, ho.2], hp.mods⟩
  ·intro hb2; (try simp only [decide_eq_true_eq, decide_eq_false_iff_not, Bool.not_eq_true', Bool.not_eq_false', Bool.not_eq_eq_eq_not, Bool.not_true, Bool.not_false, Int.not_lt, Int.not_le] at hb2)
   have hg : grB (x.take 155) = true := get_ok hb2
   refine GL_rd (wn_on rfl rfl rfl rfl) rfl (rd_sliceA (lo := 0) (hi := 256) rfl rfl Try.underlying44 ts5 at_none to_none (by decide) (by decide) (by decide) _ rfl) ?_
   refine GL_call (wn_on rfl rfl rfl rfl) rfl rfl (crc_Holds _ 256 x _ (Sl.cells (hp.get 2 rfl) 1 256 256 0 (bys x) (by rw [List.drop_zero, List.take_of_length_le (by rw [bys_length, hx]; decide)]) (by rw [bys_length, hx]; decide) (by decide) (by decide))) rfl ?_
   rintro _ w ⟨rfl, hk⟩
   have hp := hp.comp hk
   refine GL_rd (wn_on rfl rfl rfl rfl) rfl (rd_not rfl rfl) ?_
   refine GL_rd (v := .bool _) (wn_none rfl) rfl (rd_pickF rfl rfl rfl) ?_
   refine GL_rd (v := .bool _) (wn_none rfl) rfl (rd_move rfl rfl) ?_
   refine GL_split (t := 23) (b := _) rfl ?_ ?_
   ·intro hb3; (try simp only [decide_eq_true_eq, decide_eq_false_iff_not, Bool.not_eq_true', Bool.not_eq_false', Bool.not_eq_eq_eq_not, Bool.not_true, Bool.not_false, Int.not_lt, Int.not_le] at hb3)
    have hh : ¬ holdsL x = true := by rw [hb3]; decide
    refine GL_pass (nw_off rfl rfl rfl rfl rfl) rfl ?_
    refine GL_pass (nw_off rfl rfl rfl rfl rfl) rfl ?_
    refine GL_pass (nw_off rfl rfl rfl rfl rfl) rfl ?_
    refine GL_rd (v := .bool _) (wn_none rfl) rfl (rd_pickT rfl rfl rfl) ?_
    refine GL_nil ?_
    refine GW_true rfl ?_
    refine GW_seq ?_
    refine GW_region ?_
    refine GL_rd (wn_none rfl) rfl (rd_buildS (L := (recC recZ)) rfl tz59 pl59 (by kernel_rfl)) ?_
    refine GL_store (i := 1) (wn_none rfl) rfl rfl rfl rfl ts59 rfl (recC_len _) (recC_one _) hp rfl (by first | exact Nat.le_of_ble_eq_true rfl | (rw [recC_len]; decide)) (splice_all _ _ (by first | rw [recC_len, recC_len] | (rw [recC_len]; rfl))) ?_
    intro w hp
    refine GL_rd (v := .bool _) (wn_none rfl) rfl (rd_assign rfl rfl) ?_
    refine GL_rd (v := .int _ _) (wn_none rfl) rfl (rd_assign rfl rfl) ?_
    refine GL_nil ?_
    refine GW_ret ?_
    have hno : ofB' x = false := ofB_no (fun q => by first | exact hg q.1 | exact hh q.2.1 | exact hzz q.2.2)
    have ho := of_no hno hz
    exact ⟨_, res3 Try.results58 (rv_cell rfl rfl Try.underlying59 rfl ts59 (recC_len _) (hp.get 1 rfl)) (rv_tmp (v := .bool _) rfl rfl) (rv_tmp (v := .int _ _) rfl rfl), by rw [ho.1, hno, ho.2], hp.mods⟩
   ·intro hb3; (try simp only [decide_eq_true_eq, decide_eq_false_iff_not, Bool.not_eq_true', Bool.not_eq_false', Bool.not_eq_eq_eq_not, Bool.not_true, Bool.not_false, Int.not_lt, Int.not_le] at hb3)
    have hh : holdsL x = true := hb3
    refine GL_rd (wn_on rfl rfl rfl rfl) rfl (rd_sliceA (lo := 155) (hi := 252) rfl rfl Try.underlying44 ts5 (at_some rfl rfl) (at_some rfl rfl) (by decide) (by decide) (by decide) _ rfl) ?_
    refine GL_call (wn_on rfl rfl rfl rfl) rfl rfl (word_Zero _ 97 ((x.drop 155).take 97) _ (Sl.cells (hp.get 2 rfl) 1 97 101 155 (bys ((x.drop 155).take 97)) (by rw [bys_drop, bys_take]) (by rw [bys_length, hx]; decide) (by decide) (by decide))) rfl ?_
    rintro _ w ⟨rfl, hk⟩
    have hp := hp.comp hk
    refine GL_rd (wn_on rfl rfl rfl rfl) rfl (rd_not rfl rfl) ?_
    refine GL_rd (v := .bool _) (wn_none rfl) rfl (rd_pickF rfl rfl rfl) ?_
    refine GL_nil ?_
    refine GW_cond rfl (fun hb4 => ?_) (fun hb4 => ?_)
    ·(try simp only [decide_eq_true_eq, decide_eq_false_iff_not, Bool.not_eq_true', Bool.not_eq_false', Bool.not_eq_eq_eq_not, Bool.not_true, Bool.not_false, Int.not_lt, Int.not_le] at hb4)
     have hzz : ¬ zeroL ((x.drop 155).take 97) = true := by rw [hb4]; decide
     refine GW_seq ?_
     refine GW_region ?_
     refine GL_rd (wn_none rfl) rfl (rd_buildS (L := (recC recZ)) rfl tz59 pl59 (by kernel_rfl)) ?_
     refine GL_store (i := 1) (wn_none rfl) rfl rfl rfl rfl ts59 rfl (recC_len _) (recC_one _) hp rfl (by first | exact Nat.le_of_ble_eq_true rfl | (rw [recC_len]; decide)) (splice_all _ _ (by first | rw [recC_len, recC_len] | (rw [recC_len]; rfl))) ?_
     intro w hp
     refine GL_rd (v := .bool _) (wn_none rfl) rfl (rd_assign rfl rfl) ?_
     refine GL_rd (v := .int _ _) (wn_none rfl) rfl (rd_assign rfl rfl) ?_
     refine GL_nil ?_
     refine GW_ret ?_
     have hno : ofB' x = false := ofB_no (fun q => by first | exact hg q.1 | exact hh q.2.1 | exact hzz q.2.2)
     have ho := of_no hno hz
     exact ⟨_, res3 Try.results58 (rv_cell rfl rfl Try.underlying59 rfl ts59 (recC_len _) (hp.get 1 rfl)) (rv_tmp (v := .bool _) rfl rfl) (rv_tmp (v := .int _ _) rfl rfl), by rw [ho.1, hno, ho.2], hp.mods⟩
    ·(try simp only [decide_eq_true_eq, decide_eq_false_iff_not, Bool.not_eq_true', Bool.not_eq_false', Bool.not_eq_eq_eq_not, Bool.not_true, Bool.not_false, Int.not_lt, Int.not_le] at hb4)
     have hzz : zeroL ((x.drop 155).take 97) = true := hb4
     refine GW_skip ?_
     refine GW_seq ?_
     refine GW_region ?_
     refine GL_rd (wn_none rfl) rfl (rd_loadC rfl rfl Try.underlying59 rfl ts59 (hp.get 0 rfl) (recC_len _)) ?_
     refine GL_store (i := 1) (wn_none rfl) rfl rfl rfl rfl ts59 rfl (recC_len _) (recC_one _) hp rfl (by first | exact Nat.le_of_ble_eq_true rfl | (rw [recC_len]; decide)) (splice_all _ _ (by first | rw [recC_len, recC_len] | (rw [recC_len]; rfl))) ?_
     intro w hp
     refine GL_rd (v := .bool _) (wn_none rfl) rfl (rd_assign rfl rfl) ?_
     refine GL_rd (v := .int _ _) (wn_none rfl) rfl (rd_assign rfl rfl) ?_
     refine GL_nil ?_
     refine GW_ret ?_
     have hy : ofB' x = true := ofB_iff.2 ⟨hg, hh, hzz⟩
     have ho := of_yes hy
     exact ⟨_, res3 Try.results58 (rv_cell rfl rfl Try.underlying59 rfl ts59 (recC_len _) (hp.get 1 rfl)) (rv_tmp (v := .bool _) rfl rfl) (rv_tmp (v := .int _ _) rfl rfl), by rw [ho.1, hy, ho.2, ← (get_yes hg).1], hp.mods⟩

theorem aud_Export (sv : Value) (m : Nat) (l : List Rec) (w0 : World) (hI : Sl w0 sv 100 m (l.flatMap recC)) (hz : ∀ x ∈ l, x.actor.size ≤ 4294967296 ∧ x.reason.size ≤ 4294967296) (hm : m ≤ 1000000) : Does Try.prog 56 #[sv] w0 fun v w' => ∃ tv, v = .tuple #[tv, .int .i64 (expE l)] ∧ Hp w0 [] w' [.row 5 1 tv (expB l).length (bys (expB l))] := by
 obtain ⟨A, c, rfl⟩ := sl_shape hI
 have hlm := Sl.recs hI
 have hmle := hI.le
 refine does_of (l := [.slice A m c]) Try.func56 (by kernel_rfl) rfl Try.ntmps56 rfl rfl ?_
 have hp := Hp.refl w0 []
 refine GW_seq ?_
 refine GW_region ?_
 refine GL_rd (v := .slice _ _ _) (wn_none rfl) rfl (rd_assign rfl rfl) ?_
 refine GL_rd (v := .int _ _) (wn_none rfl) rfl (rd_assign rfl rfl) ?_
 refine GL_nil ?_
 refine GW_seq ?_
 refine GW_region ?_
 refine GL_rd (v := .slice _ _ _) (wn_none rfl) rfl (rd_assign rfl rfl) ?_
 refine GL_nil ?_
 refine GW_seq ?_
 refine GW_seq ?_
 refine GW_region ?_
 refine GL_rd (v := .slice _ _ _) (wn_none rfl) rfl (rd_move rfl rfl) ?_
 refine GL_rd (wn_none rfl) rfl (rd_len rfl rfl Try.underlying56) ?_
 refine GL_rd (v := .int _ _) (wn_none rfl) rfl (rd_move rfl rfl) ?_
 refine GL_nil ?_
 refine GW_block ?_
 refine GW_loop ?_
 refine Lp_ind (α := Nat × Value × Nat × List UInt8) (fun a_0 f_0 w' => match a_0 with | (i, v, n, xs) => ∃ fz, f_0 = (upd (upd (upd (upd fz 4 (v)) 9 (.slice A m c)) 10 (.int .i64 (m : Int))) 11 (.int .i64 (i : Int))) ∧ Hp w0 [] w' [.row 5 1 v n (bys xs)] ∧ (i ≤ m) ∧ (n ≤ 155 * i) ∧ (xs = (l.take i).flatMap bytesR) ∧ (∀ j, j < i → checkR (recAt l j) = 0)) (fun a_0 => match a_0 with | (i, v, n, xs) => m - i) ?_ (0, .slice none 0 0, 0, []) _ _ ?_
 ·rintro ⟨i, v, n, xs⟩ f wz ⟨fz, rfl, hp, hi0, hn, hx, hok⟩ ihL0
  refine Lp_round ?_
  refine GW_seq ?_
  refine GW_region ?_
  refine GL_rd (wn_none rfl) rfl (rd_bin rfl rfl rfl bo_lss) ?_
  refine GL_nil ?_
  refine GW_seq ?_
  refine GW_cond rfl (fun hb => ?_) (fun hb => ?_)
  ·(try simp only [decide_eq_true_eq, decide_eq_false_iff_not, Bool.not_eq_true', Bool.not_eq_false', Bool.not_eq_eq_eq_not, Bool.not_true, Bool.not_false, Int.not_lt, Int.not_le] at hb)
   obtain ⟨gA, bA, rfl⟩ := hI.addr (by rw [flat_length recC_len]; omega)
   refine GW_skip ?_
   refine GW_seq ?_
   refine GW_block ?_
   refine GW_seq ?_
   refine GW_region ?_
   refine GL_rd (wn_none rfl) rfl (rd_indexS (j := i) rfl rfl rfl Try.underlying56 ts59 rfl (by omega) _ rfl) ?_
   refine GL_rd (wn_none rfl) rfl (rd_loadN (L := recC _) rfl rfl Try.underlying59 rfl ts59 (recC_len _) (fun jq u hj => Sl.recE (hI.keep hp.mod) i (by first | omega | assumption | exact Nat.lt_succ_self _) hj)) ?_
   refine GL_alloc (wn_none rfl) rfl rfl tz59 rfl hp ?_
   intro g w hp
   refine GL_store (i := 0) (wn_none rfl) rfl rfl rfl rfl ts59 rfl (recC_len _) (recC_one _) hp rfl (by first | exact Nat.le_of_ble_eq_true rfl | (rw [recC_len]; decide)) (splice_all _ _ (by first | rw [recC_len, recC_len] | (rw [recC_len]; rfl))) ?_
   intro w hp
   refine GL_nil ?_
   refine GW_seq ?_
   refine GW_region ?_
   refine GL_rd (wn_none rfl) rfl (rd_loadC rfl rfl Try.underlying59 rfl ts59 (hp.get 0 rfl) (recC_len _)) ?_
   refine GL_call (wn_none rfl) rfl rfl (aud_Put (recAt l i) _ (hz _ (recAt_mem (by omega)))) rfl ?_
   rintro _ w ⟨vb, rfl, hk⟩
   have hp := hp.comp hk
   refine GL_rd (v := .tuple _) (wn_none rfl) rfl (rd_move rfl rfl) ?_
   refine GL_rd (v := vb) (wn_none rfl) rfl (rd_extract rfl rfl rfl) ?_
   refine GL_rd (v := .int _ _) (wn_none rfl) rfl (rd_extract rfl rfl rfl) ?_
   refine GL_rd (v := vb) (wn_none rfl) rfl (rd_assign rfl rfl) ?_
   refine GL_rd (v := .int _ _) (wn_none rfl) rfl (rd_assign rfl rfl) ?_
   refine GL_nil ?_
   refine GW_seq ?_
   refine GW_seq ?_
   refine GW_region ?_
   refine GL_rd (v := .int _ _) (wn_none rfl) rfl (rd_move rfl rfl) ?_
   refine GL_rd (wn_none rfl) rfl (rd_bin rfl rfl rfl bo_neq) ?_
   refine GL_nil ?_
   refine GW_cond rfl (fun hb2 => ?_) (fun hb2 => ?_)
   ·(try simp only [decide_eq_true_eq, decide_eq_false_iff_not, Bool.not_eq_true', Bool.not_eq_false', Bool.not_eq_eq_eq_not, Bool.not_true, Bool.not_false, Int.not_lt, Int.not_le] at hb2)
    have hc : ¬ checkR (recAt l i) = 0 := hb2
    refine GW_seq ?_
    refine GW_region ?_
    refine GL_rd (v := .int _ _) (wn_none rfl) rfl (rd_move rfl rfl) ?_
    refine GL_rd (v := .slice _ _ _) (wn_none rfl) rfl (rd_assign rfl rfl) ?_
    refine GL_rd (v := .int _ _) (wn_none rfl) rfl (rd_assign rfl rfl) ?_
    refine GL_nil ?_
    refine GW_ret ?_
    have ee := exp_at (l := l) (i := i) (by omega) hok hc
    have eb : expB l = [] := by rw [expB, if_neg (by rw [ee]; exact hc)]
    have hp := hp.mods.nilRow 5 1
    exact ⟨_, res2 Try.results56 (rv_tmp (v := .slice _ _ _) rfl rfl) (rv_tmp (v := .int _ _) rfl rfl), .slice none 0 0, by rw [ee], by rw [eb]; exact hp⟩
   ·(try simp only [decide_eq_true_eq, decide_eq_false_iff_not, Bool.not_eq_true', Bool.not_eq_false', Bool.not_eq_eq_eq_not, Bool.not_true, Bool.not_false, Int.not_lt, Int.not_le] at hb2)
    have hc : checkR (recAt l i) = 0 := hb2
    rw [putB_yes hc] at hp
    have hbl := bytesR_le (recAt l i)
    refine GW_skip ?_
    refine GW_region ?_
    refine GL_rd (v := v) (wn_none rfl) rfl (rd_move rfl rfl) ?_
    refine GL_rd (v := vb) (wn_none rfl) rfl (rd_move rfl rfl) ?_
    refine GL_append (i := 2) (wn_none rfl) rfl rfl rfl rfl Try.underlying39 ti5 rfl (by decide) hp rfl (Sl.row (hp.get 0 rfl)) (bys_one _) (by omega) (by omega) ?_
    intro v w hp
    rw [← bys_append] at hp
    refine GL_rd (v := v) (wn_none rfl) rfl (rd_assign rfl rfl) ?_
    refine GL_nil ?_
    refine GW_region ?_
    refine GL_rd (wn_none rfl) rfl (rd_bin rfl rfl rfl (bo_add64 (by omega))) ?_
    refine GL_rd (v := .int _ _) (wn_none rfl) rfl (rd_move rfl rfl) ?_
    refine GL_nil ?_
    have hp := ((hp.front 2 rfl).take 1)
    exact ihL0 (i + 1, v, _, _) _ _ (by simp only []; omega) ⟨_, slots4 rfl rfl rfl rfl, hp, by omega, by omega, by rw [hx, recs_snoc (by omega)], fun j hj => by rcases Nat.lt_succ_iff_lt_or_eq.1 hj with h | h; exact hok j h; subst h; exact hc⟩
  ·(try simp only [decide_eq_true_eq, decide_eq_false_iff_not, Bool.not_eq_true', Bool.not_eq_false', Bool.not_eq_eq_eq_not, Bool.not_true, Bool.not_false, Int.not_lt, Int.not_le] at hb)
   refine GW_exit ?_
   refine GW_seq ?_
   refine GW_region ?_
   refine GL_rd (v := v) (wn_none rfl) rfl (rd_move rfl rfl) ?_
   refine GL_rd (v := v) (wn_none rfl) rfl (rd_assign rfl rfl) ?_
   refine GL_rd (v := .int _ _) (wn_none rfl) rfl (rd_assign rfl rfl) ?_
   refine GL_nil ?_
   refine GW_ret ?_
   obtain rfl : m = i := by omega
   have ee := exp_all (l := l) (by rw [hlm]; exact hok)
   have eb : xs = expB l := by rw [hx, expB, if_pos ee, List.take_of_length_le (by omega)]
   subst eb
   have en := row_n (hp.get 0 rfl)
   subst en
   have hp := ((hp.front 0 rfl).take 1)
   exact ⟨_, res2 Try.results56 (rv_tmp (v := v) rfl rfl) (rv_tmp (v := .int _ _) rfl rfl), _, by rw [ee], hp⟩
 ·have hp := hp.nilRow 5 1
  refine ⟨_, slots4 rfl rfl rfl rfl, hp, Nat.zero_le _, Nat.zero_le _, rfl, fun j hj => absurd hj (by omega)⟩

set_option maxHeartbeats 1000000 in
theorem aud_Import (sv : Value) (m : Nat) (b : List UInt8) (w0 : World) (hs : Sl w0 sv 1 m (bys b)) (hm : m ≤ 1000000) : Does Try.prog 57 #[sv] w0 fun v w' => ∃ tv, v = .tuple #[tv, .int .i64 (impE b)] ∧ Hp w0 [] w' [.row 59 100 tv (impL b).length ((impL b).flatMap recC)] := by
 obtain ⟨A, c, rfl⟩ := sl_shape hs
 have hml := hs.blen
 refine does_of (l := [.slice A m c]) Try.func57 (by kernel_rfl) rfl Try.ntmps57 rfl rfl ?_
 have hp := Hp.refl w0 []
 refine GW_seq ?_
 refine GW_region ?_
 refine GL_rd (v := .slice _ _ _) (wn_none rfl) rfl (rd_assign rfl rfl) ?_
 refine GL_rd (v := .int _ _) (wn_none rfl) rfl (rd_assign rfl rfl) ?_
 refine GL_nil ?_
 refine GW_seq ?_
 refine GW_region ?_
 refine GL_rd (v := .slice _ _ _) (wn_none rfl) rfl (rd_assign rfl rfl) ?_
 refine GL_nil ?_
 refine GW_seq ?_
 refine GW_block ?_
 refine GW_loop ?_
 refine Lp_ind (α := Nat × Option Addr × Nat × Nat × Value × List Rec) (fun a_0 f_0 w' => match a_0 with | (k, A2, n2, c2, v, xs) => ∃ fz, f_0 = (upd (upd fz 0 (.slice A2 n2 c2)) 4 (v)) ∧ Hp w0 [] w' [.row 59 100 v k (xs.flatMap recC)] ∧ (n2 + 155 * k = m) ∧ (Sl w0 (.slice A2 n2 c2) 1 n2 (bys (b.drop (155 * k)))) ∧ (xs = impK b k) ∧ (∀ j, j < k → grB (ckB b j) = true)) (fun a_0 => match a_0 with | (k, A2, n2, c2, v, xs) => m - 155 * k) ?_ (0, A, m, c, .slice none 0 0, []) _ _ ?_
 ·rintro ⟨k, A2, n2, c2, v, xs⟩ f wz ⟨fz, rfl, hp, hn2, hsv, hx, hok⟩ ihL0
  refine Lp_round ?_
  refine GW_seq ?_
  refine GW_seq ?_
  refine GW_region ?_
  refine GL_rd (v := .slice _ _ _) (wn_none rfl) rfl (rd_move rfl rfl) ?_
  refine GL_rd (wn_none rfl) rfl (rd_len rfl rfl Try.underlying39) ?_
  refine GL_rd (wn_none rfl) rfl (rd_bin rfl rfl rfl bo_geq) ?_
  refine GL_nil ?_
  refine GW_cond rfl (fun hb => ?_) (fun hb => ?_)
  ·(try simp only [decide_eq_true_eq, decide_eq_false_iff_not, Bool.not_eq_true', Bool.not_eq_false', Bool.not_eq_eq_eq_not, Bool.not_true, Bool.not_false, Int.not_lt, Int.not_le] at hb)
   refine GW_skip ?_
   refine GW_seq ?_
   refine GW_block ?_
   refine GW_seq ?_
   refine GW_region ?_
   refine GL_rd (v := .slice _ _ _) (wn_none rfl) rfl (rd_move rfl rfl) ?_
   refine GL_rd (wn_none rfl) rfl (rd_sliceS (lo := 0) (hi := 155) rfl rfl Try.underlying39 ts5 at_none (at_some rfl rfl) (by decide) (by have := (Sl.cap hsv).1; omega)) ?_
   refine GL_call (wn_none rfl) rfl rfl (aud_Get _ _ (ckB b k) _ (Sl.cutB (hsv.keep hp.mod) 0 155 (by decide) (by omega)) (by decide)) rfl ?_
   rintro _ w ⟨rfl, hk⟩
   have hp := hp.comp hk
   refine GL_rd (v := .tuple _) (wn_none rfl) rfl (rd_move rfl rfl) ?_
   refine GL_rd (v := .agg ⟨_⟩) (wn_none rfl) rfl (rd_extract rfl rfl rfl) ?_
   refine GL_rd (v := .int _ _) (wn_none rfl) rfl (rd_extract rfl rfl rfl) ?_
   refine GL_alloc (wn_none rfl) rfl rfl tz59 rfl hp ?_
   intro g w hp
   refine GL_store (i := 0) (wn_none rfl) rfl rfl rfl rfl ts59 rfl (recC_len _) (recC_one _) hp rfl (by first | exact Nat.le_of_ble_eq_true rfl | (rw [recC_len]; decide)) (splice_all _ _ (by first | rw [recC_len, recC_len] | (rw [recC_len]; rfl))) ?_
   intro w hp
   refine GL_rd (v := .int _ _) (wn_none rfl) rfl (rd_assign rfl rfl) ?_
   refine GL_nil ?_
   refine GW_seq ?_
   refine GW_seq ?_
   refine GW_region ?_
   refine GL_rd (v := .int _ _) (wn_none rfl) rfl (rd_move rfl rfl) ?_
   refine GL_rd (wn_none rfl) rfl (rd_bin rfl rfl rfl bo_neq) ?_
   refine GL_nil ?_
   refine GW_cond rfl (fun hb2 => ?_) (fun hb2 => ?_)
   ·(try simp only [decide_eq_true_eq, decide_eq_false_iff_not, Bool.not_eq_true', Bool.not_eq_false', Bool.not_eq_eq_eq_not, Bool.not_true, Bool.not_false, Int.not_lt, Int.not_le] at hb2)
    have hg : grB (ckB b k) = false := by cases e : grB (ckB b k); rfl; exact absurd (get_yes e).2 hb2
    refine GW_seq ?_
    refine GW_region ?_
    refine GL_rd (v := .int _ _) (wn_none rfl) rfl (rd_move rfl rfl) ?_
    refine GL_rd (v := .slice _ _ _) (wn_none rfl) rfl (rd_assign rfl rfl) ?_
    refine GL_rd (v := .int _ _) (wn_none rfl) rfl (rd_assign rfl rfl) ?_
    refine GL_nil ?_
    refine GW_ret ?_
    have ei : impE b = 5 := imp_bad (k := k) (by omega) hg
    have e5 := (get_no hg).2
    have el : impL b = [] := impL_no (by rw [ei]; decide)
    have hp := hp.mods.nilRow 59 100
    exact ⟨_, res2 Try.results57 (rv_tmp (v := .slice _ _ _) rfl rfl) (rv_tmp (v := .int _ _) rfl rfl), .slice none 0 0, by rw [ei, ← e5], by rw [el]; exact hp⟩
   ·(try simp only [decide_eq_true_eq, decide_eq_false_iff_not, Bool.not_eq_true', Bool.not_eq_false', Bool.not_eq_eq_eq_not, Bool.not_true, Bool.not_false, Int.not_lt, Int.not_le] at hb2)
    have hg : grB (ckB b k) = true := get_ok hb2
    rw [(get_yes hg).1] at hp
    refine GW_skip ?_
    refine GW_region ?_
    refine GL_rd (v := v) (wn_none rfl) rfl (rd_move rfl rfl) ?_
    refine GL_rd (wn_none rfl) rfl (rd_loadC rfl rfl Try.underlying59 rfl ts59 (hp.get 0 rfl) (recC_len _)) ?_
    refine GL_lit1 (L := _) (wn_none rfl) rfl rfl rfl rfl Try.underlying56 ts59 tz59 (by kernel_rfl) (recC_len _) hp ?_
    intro g2 w hp
    refine GL_append (i := 2) (wn_none rfl) rfl rfl rfl rfl Try.underlying56 ti59 rfl (by decide) hp rfl (Sl.row (hp.get 0 rfl)) (recC_one _) (by omega) (by omega) ?_
    intro v w hp
    rw [flat_push] at hp
    refine GL_rd (v := v) (wn_none rfl) rfl (rd_assign rfl rfl) ?_
    refine GL_nil ?_
    obtain ⟨A3, c3, hA3, hc3⟩ : ∃ A3 c3, (if c2 = 155 then A2 else A2.map (·.add (155 * 1))) = A3 ∧ c2 - 155 = c3 := ⟨_, _, rfl, rfl⟩
    refine GW_region ?_
    refine GL_rd (v := .slice _ _ _) (wn_none rfl) rfl (rd_move rfl rfl) ?_
    refine GL_rd (wn_none rfl) rfl (rd_sliceE (lo := 155) (hi := n2) rfl rfl Try.underlying39 ts5 (at_some rfl rfl) to_none (by omega) (by have := (Sl.cap hsv).1; omega) hA3 rfl hc3) ?_
    refine GL_rd (v := .slice _ _ _) (wn_none rfl) rfl (rd_assign rfl rfl) ?_
    refine GL_nil ?_
    have hp := ((hp.front 2 rfl).take 1)
    exact ihL0 (k + 1, A3, n2 - 155, c3, v, _) _ _ (by simp only []; omega) ⟨_, slots2 rfl rfl, hp, by omega, tailN hsv (by omega) hA3 hc3, by rw [hx, impK_succ], fun j hj => by rcases Nat.lt_succ_iff_lt_or_eq.1 hj with h | h; exact hok j h; subst h; exact hg⟩
  ·(try simp only [decide_eq_true_eq, decide_eq_false_iff_not, Bool.not_eq_true', Bool.not_eq_false', Bool.not_eq_eq_eq_not, Bool.not_true, Bool.not_false, Int.not_lt, Int.not_le] at hb)
   refine GW_exit ?_
   refine GW_seq ?_
   refine GW_seq ?_
   refine GW_region ?_
   refine GL_rd (v := .slice _ _ _) (wn_none rfl) rfl (rd_move rfl rfl) ?_
   refine GL_rd (wn_none rfl) rfl (rd_len rfl rfl Try.underlying39) ?_
   refine GL_rd (wn_none rfl) rfl (rd_bin rfl rfl rfl bo_gtr) ?_
   refine GL_nil ?_
   refine GW_cond rfl (fun hb3 => ?_) (fun hb3 => ?_)
   ·(try simp only [decide_eq_true_eq, decide_eq_false_iff_not, Bool.not_eq_true', Bool.not_eq_false', Bool.not_eq_eq_eq_not, Bool.not_true, Bool.not_false, Int.not_lt, Int.not_le] at hb3)
    refine GW_seq ?_
    refine GW_region ?_
    refine GL_rd (v := .slice _ _ _) (wn_none rfl) rfl (rd_assign rfl rfl) ?_
    refine GL_rd (v := .int _ _) (wn_none rfl) rfl (rd_assign rfl rfl) ?_
    refine GL_nil ?_
    refine GW_ret ?_
    have ei : impE b = 3 := imp_odd (impG_all (k := k) (by omega) hok) (by omega)
    have el : impL b = [] := impL_no (by rw [ei]; decide)
    have hp := hp.mods.nilRow 59 100
    exact ⟨_, res2 Try.results57 (rv_tmp (v := .slice _ _ _) rfl rfl) (rv_tmp (v := .int _ _) rfl rfl), .slice none 0 0, by rw [ei], by rw [el]; exact hp⟩
   ·(try simp only [decide_eq_true_eq, decide_eq_false_iff_not, Bool.not_eq_true', Bool.not_eq_false', Bool.not_eq_eq_eq_not, Bool.not_true, Bool.not_false, Int.not_lt, Int.not_le] at hb3)
    refine GW_skip ?_
    refine GW_seq ?_
    refine GW_region ?_
    refine GL_rd (v := v) (wn_none rfl) rfl (rd_move rfl rfl) ?_
    refine GL_rd (v := v) (wn_none rfl) rfl (rd_assign rfl rfl) ?_
    refine GL_rd (v := .int _ _) (wn_none rfl) rfl (rd_assign rfl rfl) ?_
    refine GL_nil ?_
    refine GW_ret ?_
    have hk5 : k = b.length / 155 := by omega
    have ei : impE b = 0 := imp_yes (impG_all (k := k) (by omega) hok) (by omega)
    have el : xs = impL b := by rw [hx, impL_yes ei, hk5]
    subst el
    have en := row_m (hp.get 0 rfl)
    subst en
    have hp := ((hp.front 0 rfl).take 1)
    exact ⟨_, res2 Try.results57 (rv_tmp (v := v) rfl rfl) (rv_tmp (v := .int _ _) rfl rfl), _, by rw [ei], hp⟩
 ·have hp := hp.nilRow 59 100
  refine ⟨_, slots2 rfl rfl, hp, by omega, hs, rfl, fun j hj => absurd hj (by omega)⟩

theorem aud_Where (kf : Nat) (caps : Array Value) (pf : Rec → Bool) (sv : Value) (m : Nat) (l : List Rec) (w0 : World) (hI : Sl w0 sv 100 m (l.flatMap recC)) (hf : ∀ w r, Mod [] w0 w → Does Try.prog kf ⟨.agg ⟨recC r⟩ :: caps.toList⟩ w fun v w' => v = .bool (pf r) ∧ Hp w [] w' []) (hm : m ≤ 1000000) : Does Try.prog 105 #[sv, .func (.func kf) #[] caps] w0 fun v w' => Hp w0 [] w' [.row 59 100 v (l.filter pf).length ((l.filter pf).flatMap recC)] := by
 obtain ⟨A, c, rfl⟩ := sl_shape hI
 have hlm := Sl.recs hI
 have hmle := hI.le
 refine does_of (l := [.slice A m c, .func (.func kf) #[] caps]) Try.func105 (by kernel_rfl) rfl Try.ntmps105 rfl rfl ?_
 have hp := Hp.refl w0 []
 refine GW_seq ?_
 refine GW_region ?_
 refine GL_rd (v := .slice _ _ _) (wn_none rfl) rfl (rd_assign rfl rfl) ?_
 refine GL_nil ?_
 refine GW_seq ?_
 refine GW_region ?_
 refine GL_rd (v := .slice _ _ _) (wn_none rfl) rfl (rd_assign rfl rfl) ?_
 refine GL_nil ?_
 refine GW_seq ?_
 refine GW_seq ?_
 refine GW_region ?_
 refine GL_rd (v := .slice _ _ _) (wn_none rfl) rfl (rd_move rfl rfl) ?_
 refine GL_rd (wn_none rfl) rfl (rd_len rfl rfl Try.underlying56) ?_
 refine GL_rd (v := .int _ _) (wn_none rfl) rfl (rd_move rfl rfl) ?_
 refine GL_nil ?_
 refine GW_block ?_
 refine GW_loop ?_
 refine Lp_ind (α := Nat × Value × Nat × List Rec) (fun a_0 f_0 w' => match a_0 with | (i, v, n, xs) => ∃ fz, f_0 = (upd (upd (upd (upd (upd fz 1 (.func (.func kf) #[] caps)) 5 (v)) 8 (.slice A m c)) 9 (.int .i64 (m : Int))) 10 (.int .i64 (i : Int))) ∧ Hp w0 [] w' [.row 59 100 v n (xs.flatMap recC)] ∧ (i ≤ m) ∧ (n ≤ i) ∧ (xs = (l.take i).filter pf)) (fun a_0 => match a_0 with | (i, v, n, xs) => m - i) ?_ (0, .slice none 0 0, 0, []) _ _ ?_
 ·rintro ⟨i, v, n, xs⟩ f wz ⟨fz, rfl, hp, hi0, hn, hx⟩ ihL0
  refine Lp_round ?_
  refine GW_seq ?_
  refine GW_region ?_
  refine GL_rd (wn_none rfl) rfl (rd_bin rfl rfl rfl bo_lss) ?_
  refine GL_nil ?_
  refine GW_seq ?_
  refine GW_cond rfl (fun hb => ?_) (fun hb => ?_)
  ·(try simp only [decide_eq_true_eq, decide_eq_false_iff_not, Bool.not_eq_true', Bool.not_eq_false', Bool.not_eq_eq_eq_not, Bool.not_true, Bool.not_false, Int.not_lt, Int.not_le] at hb)
   obtain ⟨gA, bA, rfl⟩ := hI.addr (by rw [flat_length recC_len]; omega)
   refine GW_skip ?_
   refine GW_seq ?_
   refine GW_block ?_
   refine GW_seq ?_
   refine GW_region ?_
   refine GL_rd (wn_none rfl) rfl (rd_indexS (j := i) rfl rfl rfl Try.underlying56 ts59 rfl (by omega) _ rfl) ?_
   refine GL_rd (wn_none rfl) rfl (rd_loadN (L := recC _) rfl rfl Try.underlying59 rfl ts59 (recC_len _) (fun jq u hj => Sl.recE (hI.keep hp.mod) i (by first | omega | assumption | exact Nat.lt_succ_self _) hj)) ?_
   refine GL_alloc (wn_none rfl) rfl rfl tz59 rfl hp ?_
   intro g w hp
   refine GL_store (i := 0) (wn_none rfl) rfl rfl rfl rfl ts59 rfl (recC_len _) (recC_one _) hp rfl (by first | exact Nat.le_of_ble_eq_true rfl | (rw [recC_len]; decide)) (splice_all _ _ (by first | rw [recC_len, recC_len] | (rw [recC_len]; rfl))) ?_
   intro w hp
   refine GL_nil ?_
   refine GW_seq ?_
   refine GW_region ?_
   refine GL_rd (v := .func _ _ _) (wn_none rfl) rfl (rd_move rfl rfl) ?_
   refine GL_rd (wn_none rfl) rfl (rd_loadC rfl rfl Try.underlying59 rfl ts59 (hp.get 0 rfl) (recC_len _)) ?_
   refine GL_callV (wn_none rfl) rfl rfl rfl (hf _ (recAt l i) hp.mod) rfl ?_
   rintro _ w ⟨rfl, hk⟩
   have hp := hp.comp hk
   refine GL_nil ?_
   refine GW_cond rfl (fun hb2 => ?_) (fun hb2 => ?_)
   ·(try simp only [decide_eq_true_eq, decide_eq_false_iff_not, Bool.not_eq_true', Bool.not_eq_false', Bool.not_eq_eq_eq_not, Bool.not_true, Bool.not_false, Int.not_lt, Int.not_le] at hb2)
    have hpf : pf (recAt l i) = true := hb2
    refine GW_region ?_
    refine GL_rd (v := v) (wn_none rfl) rfl (rd_move rfl rfl) ?_
    refine GL_rd (wn_none rfl) rfl (rd_loadC rfl rfl Try.underlying59 rfl ts59 (hp.get 0 rfl) (recC_len _)) ?_
    refine GL_lit1 (L := _) (wn_none rfl) rfl rfl rfl rfl Try.underlying56 ts59 tz59 (by kernel_rfl) (recC_len _) hp ?_
    intro g2 w hp
    refine GL_append (i := 2) (wn_none rfl) rfl rfl rfl rfl Try.underlying56 ti59 rfl (by decide) hp rfl (Sl.row (hp.get 0 rfl)) (recC_one _) (by omega) (by omega) ?_
    intro v w hp
    rw [flat_push] at hp
    refine GL_rd (v := v) (wn_none rfl) rfl (rd_assign rfl rfl) ?_
    refine GL_nil ?_
    refine GW_region ?_
    refine GL_rd (wn_none rfl) rfl (rd_bin rfl rfl rfl (bo_add64 (by omega))) ?_
    refine GL_rd (v := .int _ _) (wn_none rfl) rfl (rd_move rfl rfl) ?_
    refine GL_nil ?_
    have hp := ((hp.front 2 rfl).take 1)
    exact ihL0 (i + 1, v, _, _) _ _ (by simp only []; omega) ⟨_, slots5 rfl rfl rfl rfl rfl, hp, by omega, by omega, by rw [hx, filter_snoc (by omega), hpf]; simp⟩
   ·(try simp only [decide_eq_true_eq, decide_eq_false_iff_not, Bool.not_eq_true', Bool.not_eq_false', Bool.not_eq_eq_eq_not, Bool.not_true, Bool.not_false, Int.not_lt, Int.not_le] at hb2)
    have hpf : pf (recAt l i) = false := hb2
    refine GW_skip ?_
    refine GW_region ?_
    refine GL_rd (wn_none rfl) rfl (rd_bin rfl rfl rfl (bo_add64 (by omega))) ?_
    refine GL_rd (v := .int _ _) (wn_none rfl) rfl (rd_move rfl rfl) ?_
    refine GL_nil ?_
    have hp := ((hp.front 1 rfl).take 1)
    exact ihL0 (i + 1, v, _, _) _ _ (by simp only []; omega) ⟨_, slots5 rfl rfl rfl rfl rfl, hp, by omega, by omega, by rw [hx, filter_snoc (by omega), hpf]; simp⟩
  ·(try simp only [decide_eq_true_eq, decide_eq_false_iff_not, Bool.not_eq_true', Bool.not_eq_false', Bool.not_eq_eq_eq_not, Bool.not_true, Bool.not_false, Int.not_lt, Int.not_le] at hb)
   refine GW_exit ?_
   refine GW_seq ?_
   refine GW_region ?_
   refine GL_rd (v := v) (wn_none rfl) rfl (rd_move rfl rfl) ?_
   refine GL_rd (v := v) (wn_none rfl) rfl (rd_assign rfl rfl) ?_
   refine GL_nil ?_
   refine GW_ret ?_
   obtain rfl : m = i := by omega
   have e : xs = l.filter pf := by rw [hx, List.take_of_length_le (by omega)]
   subst e
   have en := row_m (hp.get 0 rfl)
   subst en
   have hp := ((hp.front 0 rfl).take 1)
   exact ⟨_, res1 Try.results105 (rv_tmp (v := v) rfl rfl), hp⟩
 ·have hp := hp.nilRow 59 100
  refine ⟨_, slots5 rfl rfl rfl rfl rfl, hp, Nat.zero_le _, Nat.zero_le _, rfl⟩

theorem aud_Clip1 (r : Rec) (gc : Nat) (a : A32) (w0 : World) (hg : (cells gc 57 (bys a.1)).at_ w0) : Does Try.prog 114 #[.agg ⟨recC r⟩, .pointer (some ⟨gc, 0, none⟩)] w0 fun v w' => v = .bool (decide (r.clip = a)) ∧ Hp w0 [] w' [] := by
 refine does_of (l := [.agg ⟨recC r⟩, .pointer (some ⟨gc, 0, none⟩)]) Try.func114 (by kernel_rfl) rfl Try.ntmps114 rfl rfl ?_
 have hp := Hp.refl w0 []
 refine GW_seq ?_
 refine GW_region ?_
 refine GL_box (wn_none rfl) rfl rfl rfl rfl hp ?_
 intro g w hp
 refine GL_rd (v := .bool _) (wn_none rfl) rfl (rd_assign rfl rfl) ?_
 refine GL_nil ?_
 refine GW_seq ?_
 refine GW_region ?_
 refine GL_rd (wn_none rfl) rfl (rd_field rfl rfl fa59_3 _ rfl) ?_
 refine GL_rd (wn_none rfl) rfl (rd_loadN (L := bys _) rfl rfl Try.underlying57 rfl ts57 (clip_len _) (fun jq u hj => (cell_of_cells (hp.get 0 rfl) _).trans (rec_clip hj))) ?_
 refine GL_rd (wn_none rfl) rfl (rd_loadN (L := bys a.1) rfl rfl Try.underlying57 rfl ts57 (by rw [bys_length]; exact a32_len _) (fun jq u hj => by rw [Nat.zero_add]; exact (cell_of_cells (Res.kept hg hp.mod (by simp)) jq).trans hj)) ?_
 refine GL_rd (wn_none rfl) rfl (rd_bin rfl rfl rfl (bo_arrB Try.underlying57 Try.underlying5 ts5 (by kernel_rfl) (by first | exact a32_len _ | simp [*]) (by first | exact a32_len _ | simp [*])).1) ?_
 refine GL_rd (v := .bool _) (wn_none rfl) rfl (rd_assign rfl rfl) ?_
 refine GL_nil ?_
 refine GW_ret ?_
 have e : decide (r.clip = a) = decide (r.clip.1 = a.1) := decide_eq_decide.2 ⟨fun q => congrArg Subtype.val q, a32_ext⟩
 exact ⟨_, res1 Try.results114 (rv_tmp (v := .bool _) rfl rfl), by rw [e], hp.mods⟩

theorem aud_Clip (sv : Value) (m : Nat) (l : List Rec) (a : A32) (w0 : World) (hI : Sl w0 sv 100 m (l.flatMap recC)) (hm : m ≤ 1000000) : Does Try.prog 47 #[sv, .agg ⟨bys a.1⟩] w0 fun v w' => Hp w0 [] w' [.row 59 100 v (l.filter fun r => decide (r.clip = a)).length ((l.filter fun r => decide (r.clip = a)).flatMap recC)] := by
 obtain ⟨A, c, rfl⟩ := sl_shape hI
 have hlm := Sl.recs hI
 have hmle := hI.le
 refine does_of (l := [.slice A m c, .agg ⟨bys a.1⟩]) Try.func47 (by kernel_rfl) rfl Try.ntmps47 rfl rfl ?_
 have hp := Hp.refl w0 []
 refine GW_seq ?_
 refine GW_region ?_
 refine GL_box (wn_none rfl) rfl rfl rfl rfl hp ?_
 intro g w hp
 refine GL_rd (v := .slice _ _ _) (wn_none rfl) rfl (rd_assign rfl rfl) ?_
 refine GL_nil ?_
 refine GW_seq ?_
 refine GW_region ?_
 refine GL_rd (v := .slice _ _ _) (wn_none rfl) rfl (rd_move rfl rfl) ?_
 refine GL_rd (wn_none rfl) rfl (rd_closure (caps := #[.pointer (some ⟨g, 0, none⟩)]) rfl rfl) ?_
 refine GL_call (wn_none rfl) rfl rfl (aud_Where 114 #[.pointer (some ⟨g, 0, none⟩)] (fun r => decide (r.clip = a)) _ _ l _ (hI.keep hp.mod) (fun w1 r h1 => aud_Clip1 r g a w1 (Res.kept (hp.get 0 rfl) h1 (by simp))) hm) rfl ?_
 intro vr w hk
 have hp := hp.comp hk
 refine GL_rd (v := vr) (wn_none rfl) rfl (rd_assign rfl rfl) ?_
 refine GL_nil ?_
 refine GW_ret ?_
 have hp := ((hp.front 0 rfl).take 1)
 exact ⟨_, res1 Try.results47 (rv_tmp (v := vr) rfl rfl), hp⟩

end Go.Proofs.Ytblpmjbddpadcaa
