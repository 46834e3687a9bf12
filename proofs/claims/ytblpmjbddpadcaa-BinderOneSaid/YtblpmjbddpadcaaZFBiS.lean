/- Walks of functions of the program. -/
import Derived.Test.YtblpmjbddpadcaaZFBiR
set_option linter.unusedVariables false
set_option linter.unusedSimpArgs false
namespace Go.Proofs.Ytblpmjbddpadcaa
open Go.Mo Go.RowKit
set_option maxHeartbeats 1000000 in
theorem bi_Get (x : List UInt8) (m k : Int) (w0 : World) (hx : x.length = 256) : Does Try.prog 67 #[.agg ⟨bys x⟩, .int .i64 m, .int .i64 k] w0 fun v w' => ∃ hv tv, v = .tuple #[.agg ⟨clipC (gV x m k) hv tv⟩, .bool (gOk x m k), .int .i64 (gE x m k)] ∧ Hp w0 [] w' [.row 3 1 tv (gV x m k).texts.length ((gV x m k).texts.map (Value.int .i64)), .row 9 1 hv (gV x m k).holds.length ((gV x m k).holds.map Value.string)] := by
 refine does_of (l := [.agg ⟨bys x⟩, .int .i64 m, .int .i64 k]) Try.func67 (by kernel_rfl) rfl Try.ntmps67 rfl rfl ?_
 have hp := Hp.refl w0 []
 refine GW_seq ?_
 refine GW_region ?_
 refine GL_box (wn_none rfl) rfl rfl rfl rfl hp ?_
 intro g w hp
 refine GL_alloc (wn_none rfl) rfl rfl tz83 rfl hp ?_
 intro g2 w hp
 refine GL_rd (v := .bool _) (wn_none rfl) rfl (rd_assign rfl rfl) ?_
 refine GL_rd (v := .int _ _) (wn_none rfl) rfl (rd_assign rfl rfl) ?_
 refine GL_nil ?_
 refine GW_seq ?_
 refine GW_seq ?_
 refine GW_region ?_
 refine GL_rd (wn_none rfl) rfl (rd_loadC rfl rfl Try.underlying44 rfl ts44 (hp.get 1 rfl) (by rw [bys_length, hx])) ?_
 refine GL_rd (wn_none rfl) rfl (rd_buildA (L := bys (List.replicate 256 0)) rfl tz44 Try.underlying44 ts5 (by kernel_rfl)) ?_
 refine GL_rd (wn_none rfl) rfl (rd_bin rfl rfl rfl (bo_arrB Try.underlying44 Try.underlying5 ts5 (by kernel_rfl) hx List.length_replicate).1) ?_
 refine GL_nil ?_
 refine GW_cond rfl (fun hb => ?_) (fun hb => ?_)
 ·(try simp only [decide_eq_true_eq, decide_eq_false_iff_not, Bool.not_eq_true', Bool.not_eq_false', Bool.not_eq_eq_eq_not, Bool.not_true, Bool.not_false, Int.not_lt, Int.not_le] at hb)
  have hz : gZ x := hb
  refine GW_seq ?_
  refine GW_region ?_
  refine GL_rd (wn_none rfl) rfl (rd_buildS (L := clpZc) rfl tz83 pl83 (by kernel_rfl)) ?_
  refine GL_store (i := 0) (wn_none rfl) rfl rfl rfl rfl ts83 rfl rfl (by rw [clpZ_c]; exact clipC_one _ _ _ _ _ _ _) hp rfl (by decide) (splice_all _ _ rfl) ?_
  intro w hp
  refine GL_rd (v := .bool _) (wn_none rfl) rfl (rd_assign rfl rfl) ?_
  refine GL_rd (v := .int _ _) (wn_none rfl) rfl (rd_assign rfl rfl) ?_
  refine GL_nil ?_
  refine GW_ret ?_
  have hbad : gOk x m k = false := gOk_no (fun hh => hh.1 hz)
  have hE : gE x m k = 0 := gE_z hz
  refine ⟨_, res3 Try.results67 (rv_cell rfl rfl Try.underlying83 rfl ts83 (by first | exact clipC_len _ _ _ | rfl) (hp.get 0 rfl)) (rv_tmp (v := .bool _) rfl rfl) (rv_tmp (v := .int _ _) rfl rfl), .slice none 0 0, .slice none 0 0, by rw [gV_no hbad, hbad, hE, ← clpZ_c], ?_⟩
  rw [gV_no hbad]
  exact (hp.mods.nilRow 9 1).nilRow 3 1
 ·(try simp only [decide_eq_true_eq, decide_eq_false_iff_not, Bool.not_eq_true', Bool.not_eq_false', Bool.not_eq_eq_eq_not, Bool.not_true, Bool.not_false, Int.not_lt, Int.not_le] at hb)
  have hz : ¬ gZ x := hb
  refine GW_skip ?_
  refine GW_seq ?_
  refine GW_seq ?_
  refine GW_region ?_
  refine GL_rd (wn_none rfl) rfl (rd_sliceA (lo := 0) (hi := 256) rfl rfl Try.underlying44 ts5 at_none to_none (by decide) (by decide) (by decide) _ rfl) ?_
  refine GL_call (wn_none rfl) rfl rfl (crc_Holds _ 256 x _ (Sl.cells (hp.get 1 rfl) 1 256 256 0 (bys x) (by rw [List.drop_zero, List.take_of_length_le (by rw [bys_length, hx]; decide)]) (by rw [bys_length, hx]; decide) (by decide) (by decide))) rfl ?_
  rintro _ w ⟨rfl, hk⟩
  have hp := hp.comp hk
  refine GL_rd (wn_none rfl) rfl (rd_not rfl rfl) ?_
  refine GL_nil ?_
  refine GW_cond rfl (fun hb2 => ?_) (fun hb2 => ?_)
  ·(try simp only [decide_eq_true_eq, decide_eq_false_iff_not, Bool.not_eq_true', Bool.not_eq_false', Bool.not_eq_eq_eq_not, Bool.not_true, Bool.not_false, Int.not_lt, Int.not_le] at hb2)
   have hbad : gOk x m k = false := gOk_no (fun hh => by have h8 := hb2; rw [hh.2.1] at h8; exact absurd h8 (by decide))
   refine GW_seq ?_
   refine GW_region ?_
   refine GL_rd (wn_none rfl) rfl (rd_buildS (L := clpZc) rfl tz83 pl83 (by kernel_rfl)) ?_
   refine GL_store (i := 0) (wn_none rfl) rfl rfl rfl rfl ts83 rfl rfl (by rw [clpZ_c]; exact clipC_one _ _ _ _ _ _ _) hp rfl (by decide) (splice_all _ _ rfl) ?_
   intro w hp
   refine GL_rd (v := .bool _) (wn_none rfl) rfl (rd_assign rfl rfl) ?_
   refine GL_rd (v := .int _ _) (wn_none rfl) rfl (rd_assign rfl rfl) ?_
   refine GL_nil ?_
   refine GW_ret ?_
   have hE : gE x m k = 5 := gE_no hz hbad
   refine ⟨_, res3 Try.results67 (rv_cell rfl rfl Try.underlying83 rfl ts83 (by first | exact clipC_len _ _ _ | rfl) (hp.get 0 rfl)) (rv_tmp (v := .bool _) rfl rfl) (rv_tmp (v := .int _ _) rfl rfl), .slice none 0 0, .slice none 0 0, by rw [gV_no hbad, hbad, hE, ← clpZ_c], ?_⟩
   rw [gV_no hbad]
   exact (hp.mods.nilRow 9 1).nilRow 3 1
  ·(try simp only [decide_eq_true_eq, decide_eq_false_iff_not, Bool.not_eq_true', Bool.not_eq_false', Bool.not_eq_eq_eq_not, Bool.not_true, Bool.not_false, Int.not_lt, Int.not_le] at hb2)
   have hho : holdsL x = true := by simpa using hb2
   refine GW_skip ?_
   refine GW_seq ?_
   refine GW_region ?_
   refine GL_rd (wn_none rfl) rfl (rd_sliceA (lo := 0) (hi := 252) rfl rfl Try.underlying44 ts5 at_none (at_some rfl rfl) (by decide) (by decide) (by decide) _ rfl) ?_
   refine GL_call (wn_none rfl) rfl rfl (word_From _ _ _ _) rfl ?_
   rintro _ w ⟨p, rfl, hk⟩
   have hp := hp.comp hk
   refine GL_call (wn_none rfl) rfl rfl (bi_read p _ (x.take 252) _ (hp.get 0 rfl) (fun w' h => (Sl.cellsB (hp.stayAt 0 2 rfl rfl (by decide) h) (by rw [hx]; decide) (by decide) (by decide))) (by rw [List.length_take]; omega)) rfl ?_
   rintro _ w ⟨hvv, tvv, rfl, hk⟩
   have hp := hp.turnAtMore 0 rfl hk
   obtain ⟨Ah, ch, rfl⟩ := row_shape (hp.get 1 rfl)
   obtain ⟨At, ct, rfl⟩ := row_shape (hp.get 0 rfl)
   refine GL_rd (v := .tuple _) (wn_none rfl) rfl (rd_move rfl rfl) ?_
   refine GL_rd (v := .agg ⟨_⟩) (wn_none rfl) rfl (rd_extract rfl rfl rfl) ?_
   refine GL_rd (v := .bool _) (wn_none rfl) rfl (rd_extract rfl rfl rfl) ?_
   refine GL_alloc (wn_none rfl) rfl rfl tz83 rfl hp ?_
   intro g3 w hp
   refine GL_store (i := 0) (wn_none rfl) rfl rfl rfl rfl ts83 rfl (clipC_len _ _ _) (clipC_one _ _ _ _ _ _ _) hp rfl (by decide) (splice_all _ _ (by rw [clipC_len]; rfl)) ?_
   intro w hp
   refine GL_rd (v := .bool _) (wn_none rfl) rfl (rd_assign rfl rfl) ?_
   refine GL_nil ?_
   refine GW_seq ?_
   refine GW_seq ?_
   refine GW_region ?_
   refine GL_rd (v := .bool _) (wn_none rfl) rfl (rd_move rfl rfl) ?_
   refine GL_rd (wn_none rfl) rfl (rd_not rfl rfl) ?_
   refine GL_rd (v := .bool _) (wn_none rfl) rfl (rd_move rfl rfl) ?_
   refine GL_split (t := 27) (b := _) rfl ?_ ?_
   ·intro hb3; (try simp only [decide_eq_true_eq, decide_eq_false_iff_not, Bool.not_eq_true', Bool.not_eq_false', Bool.not_eq_eq_eq_not, Bool.not_true, Bool.not_false, Int.not_lt, Int.not_le] at hb3)
    have hbad : gOk x m k = false := gOk_no (fun hh => by have h8 := hb3; rw [hh.2.2.1] at h8; exact absurd h8 (by decide))
    refine GL_pass (nw_off rfl rfl rfl rfl rfl) rfl ?_
    refine GL_pass (nw_off rfl rfl rfl rfl rfl) rfl ?_
    refine GL_pass (nw_off rfl rfl rfl rfl rfl) rfl ?_
    refine GL_pass (nw_off rfl rfl rfl rfl rfl) rfl ?_
    refine GL_pass (nw_off rfl rfl rfl rfl rfl) rfl ?_
    refine GL_rd (v := .bool _) (wn_none rfl) rfl (rd_pickT rfl rfl rfl) ?_
    refine GL_nil ?_
    refine GW_true rfl ?_
    refine GW_seq ?_
    refine GW_region ?_
    refine GL_rd (wn_none rfl) rfl (rd_buildS (L := clpZc) rfl tz83 pl83 (by kernel_rfl)) ?_
    refine GL_store (i := 3) (wn_none rfl) rfl rfl rfl rfl ts83 rfl rfl (by rw [clpZ_c]; exact clipC_one _ _ _ _ _ _ _) hp rfl (by decide) (splice_all _ _ rfl) ?_
    intro w hp
    refine GL_rd (v := .bool _) (wn_none rfl) rfl (rd_assign rfl rfl) ?_
    refine GL_rd (v := .int _ _) (wn_none rfl) rfl (rd_assign rfl rfl) ?_
    refine GL_nil ?_
    refine GW_ret ?_
    have hE : gE x m k = 5 := gE_no hz hbad
    refine ⟨_, res3 Try.results67 (rv_cell rfl rfl Try.underlying83 rfl ts83 (by first | exact clipC_len _ _ _ | rfl) (hp.get 3 rfl)) (rv_tmp (v := .bool _) rfl rfl) (rv_tmp (v := .int _ _) rfl rfl), .slice none 0 0, .slice none 0 0, by rw [gV_no hbad, hbad, hE, ← clpZ_c], ?_⟩
    rw [gV_no hbad]
    exact (hp.mods.nilRow 9 1).nilRow 3 1
   ·intro hb3; (try simp only [decide_eq_true_eq, decide_eq_false_iff_not, Bool.not_eq_true', Bool.not_eq_false', Bool.not_eq_eq_eq_not, Bool.not_true, Bool.not_false, Int.not_lt, Int.not_le] at hb3)
    have hro : rOk (x.take 252) = true := by simpa using hb3
    refine GL_rd (wn_on rfl rfl rfl rfl) rfl (rd_loadC rfl rfl Try.underlying83 rfl ts83 (hp.get 0 rfl) (clipC_len _ _ _)) ?_
    refine GL_rd (v := .int _ _) (wn_on rfl rfl rfl rfl) rfl (rd_move rfl rfl) ?_
    refine GL_rd (v := .int _ _) (wn_on rfl rfl rfl rfl) rfl (rd_move rfl rfl) ?_
    refine GL_call (wn_on rfl rfl rfl rfl) rfl rfl (bi_Check (rV (x.take 252)) _ _ _ _ m k _ (Sl.row (hp.get 2 rfl)) (Sl.row (hp.get 1 rfl)) (rV_small _)) rfl ?_
    rintro _ w ⟨rfl, hk⟩
    have hp := hp.comp hk
    refine GL_rd (wn_on rfl rfl rfl rfl) rfl (rd_bin rfl rfl rfl bo_neq) ?_
    refine GL_rd (v := .bool _) (wn_none rfl) rfl (rd_pickF rfl rfl rfl) ?_
    refine GL_nil ?_
    refine GW_cond rfl (fun hb4 => ?_) (fun hb4 => ?_)
    ·(try simp only [decide_eq_true_eq, decide_eq_false_iff_not, Bool.not_eq_true', Bool.not_eq_false', Bool.not_eq_eq_eq_not, Bool.not_true, Bool.not_false, Int.not_lt, Int.not_le] at hb4)
     have hbad : gOk x m k = false := gOk_no (fun hh => hb4 hh.2.2.2)
     refine GW_seq ?_
     refine GW_region ?_
     refine GL_rd (wn_none rfl) rfl (rd_buildS (L := clpZc) rfl tz83 pl83 (by kernel_rfl)) ?_
     refine GL_store (i := 3) (wn_none rfl) rfl rfl rfl rfl ts83 rfl rfl (by rw [clpZ_c]; exact clipC_one _ _ _ _ _ _ _) hp rfl (by decide) (splice_all _ _ rfl) ?_
     intro w hp
     refine GL_rd (v := .bool _) (wn_none rfl) rfl (rd_assign rfl rfl) ?_
     refine GL_rd (v := .int _ _) (wn_none rfl) rfl (rd_assign rfl rfl) ?_
     refine GL_nil ?_
     refine GW_ret ?_
     have hE : gE x m k = 5 := gE_no hz hbad
     refine ⟨_, res3 Try.results67 (rv_cell rfl rfl Try.underlying83 rfl ts83 (by first | exact clipC_len _ _ _ | rfl) (hp.get 3 rfl)) (rv_tmp (v := .bool _) rfl rfl) (rv_tmp (v := .int _ _) rfl rfl), .slice none 0 0, .slice none 0 0, by rw [gV_no hbad, hbad, hE, ← clpZ_c], ?_⟩
     rw [gV_no hbad]
     exact (hp.mods.nilRow 9 1).nilRow 3 1
    ·(try simp only [decide_eq_true_eq, decide_eq_false_iff_not, Bool.not_eq_true', Bool.not_eq_false', Bool.not_eq_eq_eq_not, Bool.not_true, Bool.not_false, Int.not_lt, Int.not_le] at hb4)
     have hgd : gOk x m k = true := gOk_iff.2 ⟨hz, hho, hro, hb4⟩
     refine GW_skip ?_
     refine GW_seq ?_
     refine GW_region ?_
     refine GL_rd (wn_none rfl) rfl (rd_loadC rfl rfl Try.underlying83 rfl ts83 (hp.get 0 rfl) (clipC_len _ _ _)) ?_
     refine GL_store (i := 3) (wn_none rfl) rfl rfl rfl rfl ts83 rfl (clipC_len _ _ _) (clipC_one _ _ _ _ _ _ _) hp rfl (by decide) (splice_all _ _ (by rw [clipC_len]; rfl)) ?_
     intro w hp
     refine GL_rd (v := .bool _) (wn_none rfl) rfl (rd_assign rfl rfl) ?_
     refine GL_rd (v := .int _ _) (wn_none rfl) rfl (rd_assign rfl rfl) ?_
     refine GL_nil ?_
     refine GW_ret ?_
     refine ⟨_, res3 Try.results67 (rv_cell rfl rfl Try.underlying83 rfl ts83 (by first | exact clipC_len _ _ _ | rfl) (hp.get 3 rfl)) (rv_tmp (v := .bool _) rfl rfl) (rv_tmp (v := .int _ _) rfl rfl), _, _, by rw [gV_yes hgd, hgd, gE_yes hgd], ?_⟩
     rw [gV_yes hgd]
     have hp := (((hp.front 2 rfl).front 2 rfl).take 2)
     exact hp
end Go.Proofs.Ytblpmjbddpadcaa
