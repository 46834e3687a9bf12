/- Walks of functions of the program. -/
import Derived.Test.YtblpmjbddpadcaaZLBin
set_option linter.unusedVariables false
set_option linter.unusedSimpArgs false
namespace Go.Proofs.Ytblpmjbddpadcaa
open Go.Mo Go.RowKit
set_option maxHeartbeats 2000000 in
theorem law_BinderPuts (c : Clp) (hv tv : Value) (mh mt : Nat) (m k : Int) (name : ByteArray) (lv : Value) (mm : Nat) (l : List A32) (w0 : World) (hH : Sl w0 hv 1 mh (c.holds.map Value.string)) (hT : Sl w0 tv 1 mt (c.texts.map (Value.int .i64))) (hA : Sl w0 lv 32 mm (l.flatMap adC)) : Does Try.prog 10 #[.agg ⟨clipC c hv tv⟩, .int .i64 m, .int .i64 k, .string name, lv] w0 fun v w' => v = .bool true ∧ Hp w0 [] w' [] := by
 obtain ⟨A, ch, rfl⟩ := sl_shape hH
 obtain ⟨B, ct, rfl⟩ := sl_shape hT
 obtain rfl : mh = c.holds.length := by have := hH.len; rw [List.length_map] at this; omega
 obtain rfl : mt = c.texts.length := by have := hT.len; rw [List.length_map] at this; omega
 obtain ⟨AA, cc, rfl⟩ := sl_shape hA
 have hlm : l.length = mm := Sl.ads hA
 refine does_of (l := [.agg ⟨(clipC c (.slice A c.holds.length ch) (.slice B c.texts.length ct))⟩, .int .i64 m, .int .i64 k, .string name, .slice AA mm cc]) Try.func10 (by kernel_rfl) rfl Try.ntmps10 rfl rfl ?_
 have hp := Hp.refl w0 []
 refine GW_seq ?_
 refine GW_region ?_
 refine GL_box (wn_none rfl) rfl rfl rfl rfl hp ?_
 intro g w hp
 refine GL_rd (v := .bool _) (wn_none rfl) rfl (rd_assign rfl rfl) ?_
 refine GL_nil ?_
 refine GW_seq ?_
 refine GW_seq ?_
 refine GW_region ?_
 refine GL_rd (wn_none rfl) rfl (rd_loadC rfl rfl Try.underlying83 rfl ts83 (hp.get 0 rfl) (clipC_len _ _ _)) ?_
 refine GL_call (wn_none rfl) rfl rfl (law_bLight c _ _ _ _ _ (hH.keep hp.mod) (hT.keep hp.mod)) rfl ?_
 rintro _ w ⟨r, rfl, hlt, hk⟩
 have hp := hp.comp hk
 refine GL_rd (wn_none rfl) rfl (rd_bin rfl rfl rfl bo_gtr) ?_
 refine GL_rd (v := .bool _) (wn_none rfl) rfl (rd_move rfl rfl) ?_
 refine GL_split (t := 18) (b := _) rfl ?_ ?_
 ·intro hb; (try simp only [decide_eq_true_eq, decide_eq_false_iff_not, Bool.not_eq_true', Bool.not_eq_false', Bool.not_eq_eq_eq_not, Bool.not_true, Bool.not_false, Int.not_lt, Int.not_le] at hb)
  refine GL_pass (nw_off rfl rfl rfl rfl rfl) rfl ?_
  refine GL_pass (nw_off rfl rfl rfl rfl rfl) rfl ?_
  refine GL_pass (nw_off rfl rfl rfl rfl rfl) rfl ?_
  refine GL_rd (v := .bool _) (wn_none rfl) rfl (rd_pickT rfl rfl rfl) ?_
  refine GL_rd (v := .bool _) (wn_none rfl) rfl (rd_move rfl rfl) ?_
  refine GL_pass (nw_off rfl rfl rfl rfl rfl) rfl ?_
  refine GL_pass (nw_off rfl rfl rfl rfl rfl) rfl ?_
  refine GL_pass (nw_off rfl rfl rfl rfl rfl) rfl ?_
  refine GL_rd (v := .bool _) (wn_none rfl) rfl (rd_pickT rfl rfl rfl) ?_
  refine GL_nil ?_
  refine GW_true rfl ?_
  refine GW_seq ?_
  refine GW_region ?_
  refine GL_call (wn_none rfl) rfl rfl (law_bworks _) rfl ?_
  rintro _ w ⟨rfl, hk⟩
  have hp := hp.comp hk
  refine GL_rd (v := .bool _) (wn_none rfl) rfl (rd_assign rfl rfl) ?_
  refine GL_nil ?_
  refine GW_ret ?_
  exact ⟨_, res1 Try.results10 (rv_tmp (v := .bool _) rfl rfl), rfl, hp.mods⟩
 ·intro hb; (try simp only [decide_eq_true_eq, decide_eq_false_iff_not, Bool.not_eq_true', Bool.not_eq_false', Bool.not_eq_eq_eq_not, Bool.not_true, Bool.not_false, Int.not_lt, Int.not_le] at hb)
  have hlg := lgt_no hlt (by omega)
  refine GL_rd (v := .string _) (wn_on rfl rfl rfl rfl) rfl (rd_move rfl rfl) ?_
  refine GL_rd (wn_on rfl rfl rfl rfl) rfl (rd_lenS rfl rfl Try.underlying9) ?_
  refine GL_rd (wn_on rfl rfl rfl rfl) rfl (rd_bin rfl rfl rfl bo_gtr) ?_
  refine GL_rd (v := .bool _) (wn_none rfl) rfl (rd_pickF rfl rfl rfl) ?_
  refine GL_rd (v := .bool _) (wn_none rfl) rfl (rd_move rfl rfl) ?_
  refine GL_split (t := 23) (b := _) rfl ?_ ?_
  ·intro hb2; (try simp only [decide_eq_true_eq, decide_eq_false_iff_not, Bool.not_eq_true', Bool.not_eq_false', Bool.not_eq_eq_eq_not, Bool.not_true, Bool.not_false, Int.not_lt, Int.not_le] at hb2)
   refine GL_pass (nw_off rfl rfl rfl rfl rfl) rfl ?_
   refine GL_pass (nw_off rfl rfl rfl rfl rfl) rfl ?_
   refine GL_pass (nw_off rfl rfl rfl rfl rfl) rfl ?_
   refine GL_rd (v := .bool _) (wn_none rfl) rfl (rd_pickT rfl rfl rfl) ?_
   refine GL_nil ?_
   refine GW_true rfl ?_
   refine GW_seq ?_
   refine GW_region ?_
   refine GL_call (wn_none rfl) rfl rfl (law_bworks _) rfl ?_
   rintro _ w ⟨rfl, hk⟩
   have hp := hp.comp hk
   refine GL_rd (v := .bool _) (wn_none rfl) rfl (rd_assign rfl rfl) ?_
   refine GL_nil ?_
   refine GW_ret ?_
   exact ⟨_, res1 Try.results10 (rv_tmp (v := .bool _) rfl rfl), rfl, hp.mods⟩
  ·intro hb2; (try simp only [decide_eq_true_eq, decide_eq_false_iff_not, Bool.not_eq_true', Bool.not_eq_false', Bool.not_eq_eq_eq_not, Bool.not_true, Bool.not_false, Int.not_lt, Int.not_le] at hb2)
   have hnm := hb2
   refine GL_rd (v := .slice _ _ _) (wn_on rfl rfl rfl rfl) rfl (rd_move rfl rfl) ?_
   refine GL_rd (wn_on rfl rfl rfl rfl) rfl (rd_len rfl rfl Try.underlying84) ?_
   refine GL_rd (wn_on rfl rfl rfl rfl) rfl (rd_bin rfl rfl rfl bo_gtr) ?_
   refine GL_rd (v := .bool _) (wn_none rfl) rfl (rd_pickF rfl rfl rfl) ?_
   refine GL_nil ?_
   refine GW_cond rfl (fun hb3 => ?_) (fun hb3 => ?_)
   ·(try simp only [decide_eq_true_eq, decide_eq_false_iff_not, Bool.not_eq_true', Bool.not_eq_false', Bool.not_eq_eq_eq_not, Bool.not_true, Bool.not_false, Int.not_lt, Int.not_le] at hb3)
    refine GW_seq ?_
    refine GW_region ?_
    refine GL_call (wn_none rfl) rfl rfl (law_bworks _) rfl ?_
    rintro _ w ⟨rfl, hk⟩
    have hp := hp.comp hk
    refine GL_rd (v := .bool _) (wn_none rfl) rfl (rd_assign rfl rfl) ?_
    refine GL_nil ?_
    refine GW_ret ?_
    exact ⟨_, res1 Try.results10 (rv_tmp (v := .bool _) rfl rfl), rfl, hp.mods⟩
   ·(try simp only [decide_eq_true_eq, decide_eq_false_iff_not, Bool.not_eq_true', Bool.not_eq_false', Bool.not_eq_eq_eq_not, Bool.not_true, Bool.not_false, Int.not_lt, Int.not_le] at hb3)
    have hm8 := hb3
    have hadr : name.size ≤ 65535 ∧ c.note.size ≤ 65535 := by have := hlg.2.2.1; omega
    refine GW_skip ?_
    refine GW_seq ?_
    refine GW_region ?_
    refine GL_rd (wn_none rfl) rfl (rd_loadC rfl rfl Try.underlying83 rfl ts83 (hp.get 0 rfl) (clipC_len _ _ _)) ?_
    refine GL_call (wn_none rfl) rfl rfl (bi_Put c _ _ _ _ _ (hH.keep hp.mod) (hT.keep hp.mod) hlg.hz (by have := hlg.2.2.1; omega)) rfl ?_
    rintro _ w ⟨rfl, hk⟩
    have hp := hp.comp hk
    refine GL_rd (v := .tuple _) (wn_none rfl) rfl (rd_move rfl rfl) ?_
    refine GL_rd (v := .agg ⟨_⟩) (wn_none rfl) rfl (rd_extract rfl rfl rfl) ?_
    refine GL_rd (v := .int _ _) (wn_none rfl) rfl (rd_extract rfl rfl rfl) ?_
    refine GL_alloc (wn_none rfl) rfl rfl tz44 rfl hp ?_
    intro g2 w hp
    refine GL_store (i := 0) (wn_none rfl) rfl rfl rfl rfl ts44 rfl (by rw [bys_length, secC_length]) (bys_one _) hp rfl (by rw [List.length_replicate]; decide) (splice_all _ _ (by rw [bys_length, secC_length, List.length_replicate])) ?_
    intro w hp
    refine GL_rd (v := .int _ _) (wn_none rfl) rfl (rd_assign rfl rfl) ?_
    refine GL_nil ?_
    refine GW_seq ?_
    refine GW_region ?_
    refine GL_rd (wn_none rfl) rfl (rd_loadC rfl rfl Try.underlying83 rfl ts83 (hp.get 1 rfl) (clipC_len _ _ _)) ?_
    refine GL_call (wn_none rfl) rfl rfl (ref_bPut c _ _ _ _ _ (hH.keep hp.mod) (hT.keep hp.mod) hlg.hz (by have := hlg.2.2.1; omega)) rfl ?_
    rintro _ w ⟨rfl, hk⟩
    have hp := hp.comp hk
    refine GL_rd (v := .tuple _) (wn_none rfl) rfl (rd_move rfl rfl) ?_
    refine GL_rd (v := .agg ⟨_⟩) (wn_none rfl) rfl (rd_extract rfl rfl rfl) ?_
    refine GL_rd (v := .int _ _) (wn_none rfl) rfl (rd_extract rfl rfl rfl) ?_
    refine GL_alloc (wn_none rfl) rfl rfl tz44 rfl hp ?_
    intro g3 w hp
    refine GL_store (i := 0) (wn_none rfl) rfl rfl rfl rfl ts44 rfl (by rw [bys_length, secC_length]) (bys_one _) hp rfl (by rw [List.length_replicate]; decide) (splice_all _ _ (by rw [bys_length, secC_length, List.length_replicate])) ?_
    intro w hp
    refine GL_rd (v := .int _ _) (wn_none rfl) rfl (rd_assign rfl rfl) ?_
    refine GL_nil ?_
    refine GW_seq ?_
    refine GW_drawnK 40 (.one 0 true (.one 1 true (.one 2 true (.one 4 true (.one 5 true (.one 6 true (.one 3 false (.one 7 false (.one 8 true (.one 9 true (.one 10 true (.one 11 true (.one 12 true (.one 13 true (.one 14 true (.one 15 true (.one 16 true (.one 17 true (.one 18 true (.one 19 true (.one 20 true (.one 21 true (.one 22 true (.one 23 true (.one 24 true (.one 25 true (.one 27 true (.one 28 true (.one 29 true (.one 30 true (.one 31 true (.one 32 true (.one 26 false (.one 33 false (.one 34 true (.one 35 true (.one 36 true (.one 37 false (.one 38 true (.one 39 true .nil)))))))))))))))))))))))))))))))))))))))) mixed (by kernel_rfl) hp (fun _ h => h) fun w hp => ?_
    have hpS := hp
    refine GO_rd rfl rfl (wn_none rfl) rfl hpS (fun w hp => (rd_loadC rfl rfl Try.underlying83 rfl ts83 (hp.get 2 rfl) (clipC_len _ _ _))) ?_
    refine GO_rdT (v := .int _ _) rfl (wn_none rfl) rfl (fun w => (rd_move rfl rfl)) ?_
    refine GO_rdT (v := .int _ _) rfl (wn_none rfl) rfl (fun w => (rd_move rfl rfl)) ?_
    refine GO_rd rfl rfl (wn_none rfl) rfl hpS (fun w hp => (rd_loadC rfl rfl Try.underlying83 rfl ts83 (hp.get 2 rfl) (clipC_len _ _ _))) ?_
    refine GO_rdT (v := .int _ _) rfl (wn_none rfl) rfl (fun w => (rd_move rfl rfl)) ?_
    refine GO_rdT (v := .int _ _) rfl (wn_none rfl) rfl (fun w => (rd_move rfl rfl)) ?_
    refine GO_of_GL rfl ?_
    refine GL_call (wn_none rfl) rfl rfl (bi_Check c _ _ _ _ m k _ (hH.keep hp.mod) (hT.keep hp.mod) hlg.hz) rfl ?_
    rintro _ w ⟨rfl, hk⟩
    have hp := hp.comp hk
    have hpS2 := hp
    refine GL_nil ⟨fun _ => hpS2, ?_⟩
    refine GO_of_GL rfl ?_
    refine GL_call (wn_none rfl) rfl rfl (ref_bCheck c _ _ _ _ m k _ (hH.keep hp.mod) (hT.keep hp.mod) hlg.hz) rfl ?_
    rintro _ w ⟨rfl, hk⟩
    have hp := hp.comp hk
    have hpS3 := hp
    refine GL_nil ⟨fun _ => hpS3, ?_⟩
    refine GO_rd rfl rfl (wn_none rfl) rfl hpS3 (fun w hp => (rd_bin rfl rfl rfl (bo_boolE (q := true) bo_eql (decide_eq_true rfl)))) ?_
    refine GO_rdT (v := .bool _) rfl (wn_none rfl) rfl (fun w => (rd_move rfl rfl)) ?_
    refine GO_rd rfl rfl (wn_on rfl rfl rfl rfl) rfl hpS3 (fun w hp => (rd_loadC rfl rfl Try.underlying44 rfl ts44 (hp.get 1 rfl) (by rw [bys_length, secC_length]))) ?_
    refine GO_rd rfl rfl (wn_on rfl rfl rfl rfl) rfl hpS3 (fun w hp => (rd_loadC rfl rfl Try.underlying44 rfl ts44 (hp.get 0 rfl) (by rw [bys_length, secC_length]))) ?_
    refine GO_rd rfl rfl (wn_on rfl rfl rfl rfl) rfl hpS3 (fun w hp => (rd_bin rfl rfl rfl (bo_boolE (q := true) (bo_arrB Try.underlying44 Try.underlying5 ts5 (by kernel_rfl) (secC_length _) (secC_length _)).1 (decide_eq_true rfl)))) ?_
    refine GO_rdT (v := .bool _) rfl (wn_none rfl) rfl (fun w => (rd_pickT rfl rfl rfl)) ?_
    refine GO_rdT (v := .bool _) rfl (wn_none rfl) rfl (fun w => (rd_move rfl rfl)) ?_
    refine GO_rdT (v := .int _ _) rfl (wn_on rfl rfl rfl rfl) rfl (fun w => (rd_move rfl rfl)) ?_
    refine GO_rdT (v := .int _ _) rfl (wn_on rfl rfl rfl rfl) rfl (fun w => (rd_move rfl rfl)) ?_
    refine GO_rd rfl rfl (wn_on rfl rfl rfl rfl) rfl hpS3 (fun w hp => (rd_bin rfl rfl rfl (bo_boolE (q := true) bo_eql (decide_eq_true rfl)))) ?_
    refine GO_rdT (v := .bool _) rfl (wn_none rfl) rfl (fun w => (rd_pickT rfl rfl rfl)) ?_
    refine GO_rdT (v := .bool _) rfl (wn_none rfl) rfl (fun w => (rd_move rfl rfl)) ?_
    refine GO_rdT (v := .string _) rfl (wn_on rfl rfl rfl rfl) rfl (fun w => (rd_move rfl rfl)) ?_
    refine GO_rdT rfl (wn_on rfl rfl rfl rfl) rfl (fun w => (rd_field rfl rfl fa83_2 _ rfl)) ?_
    refine GO_rd rfl rfl (wn_on rfl rfl rfl rfl) rfl hpS3 (fun w hp => (rd_load rfl rfl Try.underlying3 rfl ((cell_of_cells (hp.get 2 rfl) _).trans (clip_made _ _ _)))) ?_
    refine GO_rdT rfl (wn_on rfl rfl rfl rfl) rfl (fun w => (rd_field rfl rfl fa83_6 _ rfl)) ?_
    refine GO_rd rfl rfl (wn_on rfl rfl rfl rfl) rfl hpS3 (fun w hp => (rd_load rfl rfl Try.underlying9 rfl ((cell_of_cells (hp.get 2 rfl) _).trans (clip_note _ _ _)))) ?_
    refine GO_rdT (v := .slice _ _ _) rfl (wn_on rfl rfl rfl rfl) rfl (fun w => (rd_move rfl rfl)) ?_
    refine GO_rdT (v := .string _) rfl (wn_on rfl rfl rfl rfl) rfl (fun w => (rd_move rfl rfl)) ?_
    refine GO_rdT rfl (wn_on rfl rfl rfl rfl) rfl (fun w => (rd_field rfl rfl fa83_2 _ rfl)) ?_
    refine GO_rd rfl rfl (wn_on rfl rfl rfl rfl) rfl hpS3 (fun w hp => (rd_load rfl rfl Try.underlying3 rfl ((cell_of_cells (hp.get 2 rfl) _).trans (clip_made _ _ _)))) ?_
    refine GO_rdT rfl (wn_on rfl rfl rfl rfl) rfl (fun w => (rd_field rfl rfl fa83_6 _ rfl)) ?_
    refine GO_rd rfl rfl (wn_on rfl rfl rfl rfl) rfl hpS3 (fun w hp => (rd_load rfl rfl Try.underlying9 rfl ((cell_of_cells (hp.get 2 rfl) _).trans (clip_note _ _ _)))) ?_
    refine GO_rdT (v := .slice _ _ _) rfl (wn_on rfl rfl rfl rfl) rfl (fun w => (rd_move rfl rfl)) ?_
    refine GO_of_GL rfl ?_
    refine GL_call (wn_on rfl rfl rfl rfl) rfl rfl (bi_Address name c.note c.made _ mm l _ (hA.keep hp.mod) hadr (by omega)) rfl ?_
    rintro _ w ⟨rfl, hk⟩
    have hp := hp.comp hk
    have hpS4 := hp
    refine GL_nil ⟨fun _ => hpS4, ?_⟩
    refine GO_of_GL rfl ?_
    refine GL_call (wn_on rfl rfl rfl rfl) rfl rfl (ref_bAddress name c.note c.made _ mm l _ (hA.keep hp.mod) hadr (by omega)) rfl ?_
    rintro _ w ⟨rfl, hk⟩
    have hp := hp.comp hk
    have hpS5 := hp
    refine GL_nil ⟨fun _ => hpS5, ?_⟩
    refine GO_rd rfl rfl (wn_on rfl rfl rfl rfl) rfl hpS5 (fun w hp => (rd_bin rfl rfl rfl (bo_boolE (q := true) (bo_arrB Try.underlying57 Try.underlying5 ts5 (by kernel_rfl) (clAdr_length _ _ _ _) (clAdr_length _ _ _ _)).1 (decide_eq_true rfl)))) ?_
    refine GO_rdT (v := .bool _) rfl (wn_none rfl) rfl (fun w => (rd_pickT rfl rfl rfl)) ?_
    refine GO_rdT (v := .bool _) rfl (wn_none rfl) rfl (fun w => (rd_move rfl rfl)) ?_
    refine GO_of_GL rfl ?_
    refine GL_call (wn_on rfl rfl rfl rfl) rfl rfl (law_bworks _) rfl ?_
    rintro _ w ⟨rfl, hk⟩
    have hp := hp.comp hk
    have hpS6 := hp
    refine GL_nil ⟨fun _ => hpS6, ?_⟩
    refine GO_rdT (v := .bool _) rfl (wn_none rfl) rfl (fun w => (rd_pickT rfl rfl rfl)) ?_
    refine GO_rdT (v := .bool _) rfl (wn_none rfl) rfl (fun w => (rd_assign rfl rfl)) ?_
    refine GO_nil ?_
    refine GW_ret ?_
    exact ⟨_, res1 Try.results10 (rv_tmp (v := .bool _) rfl rfl), rfl, hp.mods⟩
set_option maxHeartbeats 2000000 in
theorem law_BinderBack (c : Clp) (hv tv : Value) (mh mt : Nat) (x : List UInt8) (m k : Int) (w0 : World) (hH : Sl w0 hv 1 mh (c.holds.map Value.string)) (hT : Sl w0 tv 1 mt (c.texts.map (Value.int .i64))) (hx : x.length = 256) : Does Try.prog 11 #[.agg ⟨clipC c hv tv⟩, .agg ⟨bys x⟩, .int .i64 m, .int .i64 k] w0 fun v w' => v = .bool true ∧ Hp w0 [] w' [] := by
 obtain ⟨A, ch, rfl⟩ := sl_shape hH
 obtain ⟨B, ct, rfl⟩ := sl_shape hT
 obtain rfl : mh = c.holds.length := by have := hH.len; rw [List.length_map] at this; omega
 obtain rfl : mt = c.texts.length := by have := hT.len; rw [List.length_map] at this; omega
 refine does_of (l := [.agg ⟨(clipC c (.slice A c.holds.length ch) (.slice B c.texts.length ct))⟩, .agg ⟨bys x⟩, .int .i64 m, .int .i64 k]) Try.func11 (by kernel_rfl) rfl Try.ntmps11 rfl rfl ?_
 have hp := Hp.refl w0 []
 refine GW_seq ?_
 refine GW_region ?_
 refine GL_box (wn_none rfl) rfl rfl rfl rfl hp ?_
 intro g w hp
 refine GL_box (wn_none rfl) rfl rfl rfl rfl hp ?_
 intro g2 w hp
 refine GL_rd (v := .bool _) (wn_none rfl) rfl (rd_assign rfl rfl) ?_
 refine GL_nil ?_
 refine GW_seq ?_
 refine GW_seq ?_
 refine GW_region ?_
 refine GL_rd (wn_none rfl) rfl (rd_loadC rfl rfl Try.underlying83 rfl ts83 (hp.get 1 rfl) (clipC_len _ _ _)) ?_
 refine GL_call (wn_none rfl) rfl rfl (law_bLight c _ _ _ _ _ (hH.keep hp.mod) (hT.keep hp.mod)) rfl ?_
 rintro _ w ⟨r, rfl, hlt, hk⟩
 have hp := hp.comp hk
 refine GL_rd (wn_none rfl) rfl (rd_bin rfl rfl rfl bo_gtr) ?_
 refine GL_nil ?_
 refine GW_cond rfl (fun hb => ?_) (fun hb => ?_)
 ·(try simp only [decide_eq_true_eq, decide_eq_false_iff_not, Bool.not_eq_true', Bool.not_eq_false', Bool.not_eq_eq_eq_not, Bool.not_true, Bool.not_false, Int.not_lt, Int.not_le] at hb)
  refine GW_seq ?_
  refine GW_region ?_
  refine GL_call (wn_none rfl) rfl rfl (law_bworks _) rfl ?_
  rintro _ w ⟨rfl, hk⟩
  have hp := hp.comp hk
  refine GL_rd (v := .bool _) (wn_none rfl) rfl (rd_assign rfl rfl) ?_
  refine GL_nil ?_
  refine GW_ret ?_
  exact ⟨_, res1 Try.results11 (rv_tmp (v := .bool _) rfl rfl), rfl, hp.mods⟩
 ·(try simp only [decide_eq_true_eq, decide_eq_false_iff_not, Bool.not_eq_true', Bool.not_eq_false', Bool.not_eq_eq_eq_not, Bool.not_true, Bool.not_false, Int.not_lt, Int.not_le] at hb)
  have hlg := lgt_no hlt (by omega)
  refine GW_skip ?_
  refine GW_seq ?_
  refine GW_region ?_
  refine GL_rd (wn_none rfl) rfl (rd_loadC rfl rfl Try.underlying83 rfl ts83 (hp.get 1 rfl) (clipC_len _ _ _)) ?_
  refine GL_call (wn_none rfl) rfl rfl (bi_Put c _ _ _ _ _ (hH.keep hp.mod) (hT.keep hp.mod) hlg.hz (by have := hlg.2.2.1; omega)) rfl ?_
  rintro _ w ⟨rfl, hk⟩
  have hp := hp.comp hk
  refine GL_rd (v := .tuple _) (wn_none rfl) rfl (rd_move rfl rfl) ?_
  refine GL_rd (v := .agg ⟨_⟩) (wn_none rfl) rfl (rd_extract rfl rfl rfl) ?_
  refine GL_rd (v := .int _ _) (wn_none rfl) rfl (rd_extract rfl rfl rfl) ?_
  refine GL_alloc (wn_none rfl) rfl rfl tz44 rfl hp ?_
  intro g3 w hp
  refine GL_store (i := 0) (wn_none rfl) rfl rfl rfl rfl ts44 rfl (by rw [bys_length, secC_length]) (bys_one _) hp rfl (by rw [List.length_replicate]; decide) (splice_all _ _ (by rw [bys_length, secC_length, List.length_replicate])) ?_
  intro w hp
  refine GL_rd (v := .int _ _) (wn_none rfl) rfl (rd_assign rfl rfl) ?_
  refine GL_nil ?_
  refine GW_cut (fun f_0 w' => ∃ (fz : _), f_0 = (upd (upd (upd fz 2 (.int .i64 m)) 3 (.int .i64 k)) 5 (.pointer (some ⟨g2, 0, none⟩))) ∧ Hp w0 [] w' [cells g2 44 (bys x)]) ?_ ?_
  ·skip
   refine GW_seq ?_
   refine GW_region ?_
   refine GL_rd (v := .int _ _) (wn_none rfl) rfl (rd_move rfl rfl) ?_
   refine GL_rd (wn_none rfl) rfl (rd_bin rfl rfl rfl bo_eql) ?_
   refine GL_nil ?_
   refine GW_cond rfl (fun hb2 => ?_) (fun hb2 => ?_)
   ·(try simp only [decide_eq_true_eq, decide_eq_false_iff_not, Bool.not_eq_true', Bool.not_eq_false', Bool.not_eq_eq_eq_not, Bool.not_true, Bool.not_false, Int.not_lt, Int.not_le] at hb2)
    have hok : clpC c 8 40 = 0 := hb2
    refine GW_seq ?_
    refine GW_region ?_
    refine GL_rd (wn_none rfl) rfl (rd_loadC rfl rfl Try.underlying44 rfl ts44 (hp.get 0 rfl) (by rw [bys_length, secC_length])) ?_
    refine GL_call (wn_none rfl) rfl rfl (bk_Get c hok _) rfl ?_
    rintro _ w ⟨hv2, tv2, rfl, hk⟩
    have hp := hp.comp hk
    obtain ⟨Ah2, ch2, rfl⟩ := row_shape (hp.get 1 rfl)
    obtain ⟨At2, ct2, rfl⟩ := row_shape (hp.get 0 rfl)
    refine GL_rd (v := .tuple _) (wn_none rfl) rfl (rd_move rfl rfl) ?_
    refine GL_rd (v := .agg ⟨_⟩) (wn_none rfl) rfl (rd_extract rfl rfl rfl) ?_
    refine GL_rd (v := .bool _) (wn_none rfl) rfl (rd_extract rfl rfl rfl) ?_
    refine GL_rd (v := .int _ _) (wn_none rfl) rfl (rd_extract rfl rfl rfl) ?_
    refine GL_alloc (wn_none rfl) rfl rfl tz83 rfl hp ?_
    intro g4 w hp
    refine GL_store (i := 0) (wn_none rfl) rfl rfl rfl rfl ts83 rfl (clipC_len _ _ _) (clipC_one _ _ _ _ _ _ _) hp rfl (by decide) (splice_all _ _ (by rw [clipC_len]; rfl)) ?_
    intro w hp
    refine GL_rd (v := .bool _) (wn_none rfl) rfl (rd_assign rfl rfl) ?_
    refine GL_rd (v := .int _ _) (wn_none rfl) rfl (rd_assign rfl rfl) ?_
    refine GL_nil ?_
    refine GW_seq ?_
    refine GW_region ?_
    refine GL_rd (v := .bool _) (wn_none rfl) rfl (rd_move rfl rfl) ?_
    refine GL_rd (wn_none rfl) rfl (rd_not rfl rfl) ?_
    refine GL_rd (v := .bool _) (wn_none rfl) rfl (rd_move rfl rfl) ?_
    refine GL_rd (v := .int _ _) (wn_on rfl rfl rfl rfl) rfl (rd_move rfl rfl) ?_
    refine GL_rd (wn_on rfl rfl rfl rfl) rfl (rd_bin rfl rfl rfl (bo_boolE (q := false) bo_neq (by decide))) ?_
    refine GL_rd (v := .bool _) (wn_none rfl) rfl (rd_pickF rfl rfl rfl) ?_
    refine GL_rd (v := .bool _) (wn_none rfl) rfl (rd_move rfl rfl) ?_
    refine GL_rd (wn_on rfl rfl rfl rfl) rfl (rd_loadC rfl rfl Try.underlying83 rfl ts83 (hp.get 5 rfl) (clipC_len _ _ _)) ?_
    refine GL_rd (wn_on rfl rfl rfl rfl) rfl (rd_loadC rfl rfl Try.underlying83 rfl ts83 (hp.get 0 rfl) (clipC_len _ _ _)) ?_
    refine GL_call (wn_on rfl rfl rfl rfl) rfl rfl (wk_Same _ _ _ _ _ _ (hH.keep hp.mod) (hT.keep hp.mod) (Sl.row (hp.get 2 rfl)) (Sl.row (hp.get 1 rfl))) rfl ?_
    rintro _ w ⟨rfl, hk⟩
    have hp := hp.comp hk
    refine GL_rd (wn_on rfl rfl rfl rfl) rfl (rd_not rfl rfl) ?_
    refine GL_rd (v := .bool _) (wn_none rfl) rfl (rd_pickF rfl rfl rfl) ?_
    refine GL_nil ?_
    refine GW_false rfl ?_
    refine GW_skip ?_
    have hp := ((hp.front 4 rfl).take 1)
    exact ⟨_, slots3 rfl rfl rfl, hp⟩
   ·(try simp only [decide_eq_true_eq, decide_eq_false_iff_not, Bool.not_eq_true', Bool.not_eq_false', Bool.not_eq_eq_eq_not, Bool.not_true, Bool.not_false, Int.not_lt, Int.not_le] at hb2)
    refine GW_skip ?_
    have hp := ((hp.front 1 rfl).take 1)
    exact ⟨_, slots3 rfl rfl rfl, hp⟩
  ·rintro f w ⟨fz, rfl, hp⟩
   refine GW_seq ?_
   refine GW_region ?_
   refine GL_rd (wn_none rfl) rfl (rd_loadC rfl rfl Try.underlying44 rfl ts44 (hp.get 0 rfl) (by rw [bys_length, hx])) ?_
   refine GL_rd (v := .int _ _) (wn_none rfl) rfl (rd_move rfl rfl) ?_
   refine GL_rd (v := .int _ _) (wn_none rfl) rfl (rd_move rfl rfl) ?_
   refine GL_call (wn_none rfl) rfl rfl (bi_Get x m k _ hx) rfl ?_
   rintro _ w ⟨hv3, tv3, rfl, hk⟩
   have hp := hp.comp hk
   obtain ⟨Ah3, ch3, rfl⟩ := row_shape (hp.get 1 rfl)
   obtain ⟨At3, ct3, rfl⟩ := row_shape (hp.get 0 rfl)
   refine GL_rd (v := .tuple _) (wn_none rfl) rfl (rd_move rfl rfl) ?_
   refine GL_rd (v := .agg ⟨_⟩) (wn_none rfl) rfl (rd_extract rfl rfl rfl) ?_
   refine GL_rd (v := .bool _) (wn_none rfl) rfl (rd_extract rfl rfl rfl) ?_
   refine GL_rd (v := .int _ _) (wn_none rfl) rfl (rd_extract rfl rfl rfl) ?_
   refine GL_alloc (wn_none rfl) rfl rfl tz83 rfl hp ?_
   intro g5 w hp
   refine GL_store (i := 0) (wn_none rfl) rfl rfl rfl rfl ts83 rfl (clipC_len _ _ _) (clipC_one _ _ _ _ _ _ _) hp rfl (by decide) (splice_all _ _ (by rw [clipC_len]; rfl)) ?_
   intro w hp
   refine GL_rd (v := .bool _) (wn_none rfl) rfl (rd_assign rfl rfl) ?_
   refine GL_rd (v := .int _ _) (wn_none rfl) rfl (rd_assign rfl rfl) ?_
   refine GL_nil ?_
   refine GW_seq ?_
   refine GW_region ?_
   refine GL_rd (wn_none rfl) rfl (rd_loadC rfl rfl Try.underlying44 rfl ts44 (hp.get 3 rfl) (by rw [bys_length, hx])) ?_
   refine GL_rd (v := .int _ _) (wn_none rfl) rfl (rd_move rfl rfl) ?_
   refine GL_rd (v := .int _ _) (wn_none rfl) rfl (rd_move rfl rfl) ?_
   refine GL_call (wn_none rfl) rfl rfl (ref_bGet x m k _ hx) rfl ?_
   rintro _ w ⟨hv4, tv4, rfl, hk⟩
   have hp := hp.comp hk
   obtain ⟨Ah4, ch4, rfl⟩ := row_shape (hp.get 1 rfl)
   obtain ⟨At4, ct4, rfl⟩ := row_shape (hp.get 0 rfl)
   refine GL_rd (v := .tuple _) (wn_none rfl) rfl (rd_move rfl rfl) ?_
   refine GL_rd (v := .agg ⟨_⟩) (wn_none rfl) rfl (rd_extract rfl rfl rfl) ?_
   refine GL_rd (v := .bool _) (wn_none rfl) rfl (rd_extract rfl rfl rfl) ?_
   refine GL_rd (v := .bool _) (wn_none rfl) rfl (rd_extract rfl rfl rfl) ?_
   refine GL_alloc (wn_none rfl) rfl rfl tz83 rfl hp ?_
   intro g6 w hp
   refine GL_store (i := 0) (wn_none rfl) rfl rfl rfl rfl ts83 rfl (clipC_len _ _ _) (clipC_one _ _ _ _ _ _ _) hp rfl (by decide) (splice_all _ _ (by rw [clipC_len]; rfl)) ?_
   intro w hp
   refine GL_rd (v := .bool _) (wn_none rfl) rfl (rd_assign rfl rfl) ?_
   refine GL_rd (v := .bool _) (wn_none rfl) rfl (rd_assign rfl rfl) ?_
   refine GL_nil ?_
   refine GW_seq ?_
   refine GW_region ?_
   refine GL_rd (v := .bool _) (wn_none rfl) rfl (rd_move rfl rfl) ?_
   refine GL_rd (v := .bool _) (wn_none rfl) rfl (rd_move rfl rfl) ?_
   refine GL_rd (wn_none rfl) rfl (rd_bin rfl rfl rfl (bo_boolE (q := true) (bo_beql Try.underlying4) (boolEq (rfl)))) ?_
   refine GL_rd (v := .bool _) (wn_none rfl) rfl (rd_move rfl rfl) ?_
   refine GL_rd (wn_on rfl rfl rfl rfl) rfl (rd_loadC rfl rfl Try.underlying83 rfl ts83 (hp.get 3 rfl) (clipC_len _ _ _)) ?_
   refine GL_rd (wn_on rfl rfl rfl rfl) rfl (rd_loadC rfl rfl Try.underlying83 rfl ts83 (hp.get 0 rfl) (clipC_len _ _ _)) ?_
   refine GL_call (wn_on rfl rfl rfl rfl) rfl rfl (wk_Same _ _ _ _ _ _ (Sl.row (hp.get 5 rfl)) (Sl.row (hp.get 4 rfl)) (Sl.row (hp.get 2 rfl)) (Sl.row (hp.get 1 rfl))) rfl ?_
   rintro _ w ⟨rfl, hk⟩
   have hp := hp.comp hk
   refine GL_rd (v := .bool _) (wn_none rfl) rfl (rd_pickT rfl rfl rfl) ?_
   refine GL_rd (v := .bool _) (wn_none rfl) rfl (rd_move rfl rfl) ?_
   refine GL_rd (v := .int _ _) (wn_on rfl rfl rfl rfl) rfl (rd_move rfl rfl) ?_
   refine GL_rd (wn_on rfl rfl rfl rfl) rfl (rd_bin rfl rfl rfl bo_eql) ?_
   refine GL_rd (v := .bool _) (wn_on rfl rfl rfl rfl) rfl (rd_move rfl rfl) ?_
   refine GL_rd (wn_on rfl rfl rfl rfl) rfl (rd_bin rfl rfl rfl (bo_boolE (q := true) (bo_beql Try.underlying4) (boolEq (gE_ok x m k)))) ?_
   refine GL_rd (v := .bool _) (wn_none rfl) rfl (rd_pickT rfl rfl rfl) ?_
   refine GL_rd (v := .bool _) (wn_none rfl) rfl (rd_move rfl rfl) ?_
   refine GL_rd (v := .bool _) (wn_on rfl rfl rfl rfl) rfl (rd_move rfl rfl) ?_
   refine GL_rd (v := .bool _) (wn_on rfl rfl rfl rfl) rfl (rd_move rfl rfl) ?_
   refine GL_split (t := 81) (b := _) rfl ?_ ?_
   ·intro hb3; (try simp only [decide_eq_true_eq, decide_eq_false_iff_not, Bool.not_eq_true', Bool.not_eq_false', Bool.not_eq_eq_eq_not, Bool.not_true, Bool.not_false, Int.not_lt, Int.not_le] at hb3)
    refine GL_pass (nw_off rfl rfl rfl rfl rfl) rfl ?_
    refine GL_pass (nw_off rfl rfl rfl rfl rfl) rfl ?_
    refine GL_rd (v := .bool _) (wn_on rfl rfl rfl rfl) rfl (rd_pickT rfl rfl rfl) ?_
    refine GL_rd (v := .bool _) (wn_none rfl) rfl (rd_pickT rfl rfl rfl) ?_
    refine GL_rd (v := .bool _) (wn_none rfl) rfl (rd_move rfl rfl) ?_
    refine GL_call (wn_on rfl rfl rfl rfl) rfl rfl (law_bworks _) rfl ?_
    rintro _ w ⟨rfl, hk⟩
    have hp := hp.comp hk
    refine GL_rd (v := .bool _) (wn_none rfl) rfl (rd_pickT rfl rfl rfl) ?_
    refine GL_rd (v := .bool _) (wn_none rfl) rfl (rd_assign rfl rfl) ?_
    refine GL_nil ?_
    refine GW_ret ?_
    exact ⟨_, res1 Try.results11 (rv_tmp (v := .bool _) rfl rfl), rfl, hp.mods⟩
   ·intro hb3; (try simp only [decide_eq_true_eq, decide_eq_false_iff_not, Bool.not_eq_true', Bool.not_eq_false', Bool.not_eq_eq_eq_not, Bool.not_true, Bool.not_false, Int.not_lt, Int.not_le] at hb3)
    have hre := gE_bad hb3
    refine GL_rd (v := .int _ _) (wn_on rfl rfl rfl rfl) rfl (rd_move rfl rfl) ?_
    refine GL_rd (wn_on rfl rfl rfl rfl) rfl (rd_bin rfl rfl rfl (bo_boolE (q := true) bo_eql (decide_eq_true hre))) ?_
    refine GL_rd (v := .bool _) (wn_on rfl rfl rfl rfl) rfl (rd_pickF rfl rfl rfl) ?_
    refine GL_rd (v := .bool _) (wn_none rfl) rfl (rd_pickT rfl rfl rfl) ?_
    refine GL_rd (v := .bool _) (wn_none rfl) rfl (rd_move rfl rfl) ?_
    refine GL_call (wn_on rfl rfl rfl rfl) rfl rfl (law_bworks _) rfl ?_
    rintro _ w ⟨rfl, hk⟩
    have hp := hp.comp hk
    refine GL_rd (v := .bool _) (wn_none rfl) rfl (rd_pickT rfl rfl rfl) ?_
    refine GL_rd (v := .bool _) (wn_none rfl) rfl (rd_assign rfl rfl) ?_
    refine GL_nil ?_
    refine GW_ret ?_
    exact ⟨_, res1 Try.results11 (rv_tmp (v := .bool _) rfl rfl), rfl, hp.mods⟩
set_option maxHeartbeats 2000000 in
theorem law_BinderUses (lv : Value) (m : Nat) (l : List CV) (t : Int) (w0 : World) (hI : Sl w0 lv 39 m (l.flatMap cvC)) (hL : cvSl w0 l) : Does Try.prog 12 #[lv, .int .i64 t] w0 fun v w' => v = .bool true ∧ Hp w0 [] w' [] := by
 obtain ⟨A, c, rfl⟩ := sl_shape hI
 have hlm : l.length = m := Sl.cvs hI
 have hmle := hI.le
 refine does_of (l := [.slice A m c, .int .i64 t]) Try.func12 (by kernel_rfl) rfl Try.ntmps12 rfl rfl ?_
 have hp := Hp.refl w0 []
 refine GW_seq ?_
 refine GW_region ?_
 refine GL_rd (v := .bool _) (wn_none rfl) rfl (rd_assign rfl rfl) ?_
 refine GL_nil ?_
 refine GW_seq ?_
 refine GW_seq ?_
 refine GW_region ?_
 refine GL_rd (v := .slice _ _ _) (wn_none rfl) rfl (rd_move rfl rfl) ?_
 refine GL_rd (wn_none rfl) rfl (rd_len rfl rfl Try.underlying96) ?_
 refine GL_rd (wn_none rfl) rfl (rd_bin rfl rfl rfl bo_gtr) ?_
 refine GL_nil ?_
 refine GW_cond rfl (fun hb => ?_) (fun hb => ?_)
 ·(try simp only [decide_eq_true_eq, decide_eq_false_iff_not, Bool.not_eq_true', Bool.not_eq_false', Bool.not_eq_eq_eq_not, Bool.not_true, Bool.not_false, Int.not_lt, Int.not_le] at hb)
  refine GW_seq ?_
  refine GW_region ?_
  refine GL_call (wn_none rfl) rfl rfl (law_bworks _) rfl ?_
  rintro _ w ⟨rfl, hk⟩
  have hp := hp.comp hk
  refine GL_rd (v := .bool _) (wn_none rfl) rfl (rd_assign rfl rfl) ?_
  refine GL_nil ?_
  refine GW_ret ?_
  exact ⟨_, res1 Try.results12 (rv_tmp (v := .bool _) rfl rfl), rfl, hp.mods⟩
 ·(try simp only [decide_eq_true_eq, decide_eq_false_iff_not, Bool.not_eq_true', Bool.not_eq_false', Bool.not_eq_eq_eq_not, Bool.not_true, Bool.not_false, Int.not_lt, Int.not_le] at hb)
  have hm30 := hb
  refine GW_skip ?_
  refine GW_seq ?_
  refine GW_seq ?_
  refine GW_region ?_
  refine GL_rd (v := .int _ _) (wn_none rfl) rfl (rd_assign rfl rfl) ?_
  refine GL_nil ?_
  refine GW_block ?_
  refine GW_loop ?_
  refine Lp_ind (α := Nat) (fun a_0 f_0 w' => match a_0 with | i => ∃ fz, f_0 = (upd (upd (upd fz 0 (.slice A m c)) 1 (.int .i64 t)) 5 (.int .i64 (i : Int))) ∧ Hp w0 [] w' [] ∧ (i ≤ m) ∧ ((∀ x ∈ l.take i, LgtC x.1))) (fun a_0 => match a_0 with | i => m - i) ?_ 0 _ _ ?_
  ·rintro i f wz ⟨fz, rfl, hp, hi0, hall⟩ ihL0
   refine Lp_round ?_
   refine GW_seq ?_
   refine GW_seq ?_
   refine GW_region ?_
   refine GL_rd (v := .int _ _) (wn_none rfl) rfl (rd_move rfl rfl) ?_
   refine GL_rd (v := .slice _ _ _) (wn_none rfl) rfl (rd_move rfl rfl) ?_
   refine GL_rd (wn_none rfl) rfl (rd_len rfl rfl Try.underlying96) ?_
   refine GL_rd (wn_none rfl) rfl (rd_bin rfl rfl rfl bo_lss) ?_
   refine GL_nil ?_
   refine GW_cond rfl (fun hb2 => ?_) (fun hb2 => ?_)
   ·(try simp only [decide_eq_true_eq, decide_eq_false_iff_not, Bool.not_eq_true', Bool.not_eq_false', Bool.not_eq_eq_eq_not, Bool.not_true, Bool.not_false, Int.not_lt, Int.not_le] at hb2)
    obtain ⟨gA, bA, rfl⟩ := hI.addr (by rw [flat_length cvC_len]; omega)
    refine GW_skip ?_
    refine GW_seq ?_
    refine GW_block ?_
    refine GW_seq ?_
    refine GW_region ?_
    refine GL_rd (v := .slice _ _ _) (wn_none rfl) rfl (rd_move rfl rfl) ?_
    refine GL_rd (v := .int _ _) (wn_none rfl) rfl (rd_move rfl rfl) ?_
    refine GL_rd (wn_none rfl) rfl (rd_indexS (j := i) rfl rfl rfl Try.underlying96 ts83 rfl (by omega) _ rfl) ?_
    refine GL_rd (wn_none rfl) rfl (rd_loadN (L := (cvC (cvAt l i))) rfl rfl Try.underlying83 rfl ts83 (cvC_len _) (fun j u hj => ((hI.keep hp.mod).cvE i (by omega) hj))) ?_
    refine GL_call (wn_none rfl) rfl rfl (law_bLight (cvAt l i).1 _ _ _ _ _ ((hL _ (mem_at (cvAt_some (l := l) (i := i) (by omega)))).1.keep hp.mod) ((hL _ (mem_at (cvAt_some (l := l) (i := i) (by omega)))).2.keep hp.mod)) rfl ?_
    rintro _ w ⟨r, rfl, hlt, hk⟩
    have hp := hp.comp hk
    refine GL_rd (wn_none rfl) rfl (rd_bin rfl rfl rfl bo_gtr) ?_
    refine GL_nil ?_
    refine GW_cond rfl (fun hb3 => ?_) (fun hb3 => ?_)
    ·(try simp only [decide_eq_true_eq, decide_eq_false_iff_not, Bool.not_eq_true', Bool.not_eq_false', Bool.not_eq_eq_eq_not, Bool.not_true, Bool.not_false, Int.not_lt, Int.not_le] at hb3)
     refine GW_seq ?_
     refine GW_region ?_
     refine GL_call (wn_none rfl) rfl rfl (law_bworks _) rfl ?_
     rintro _ w ⟨rfl, hk⟩
     have hp := hp.comp hk
     refine GL_rd (v := .bool _) (wn_none rfl) rfl (rd_assign rfl rfl) ?_
     refine GL_nil ?_
     refine GW_ret ?_
     exact ⟨_, res1 Try.results12 (rv_tmp (v := .bool _) rfl rfl), rfl, hp.mods⟩
    ·(try simp only [decide_eq_true_eq, decide_eq_false_iff_not, Bool.not_eq_true', Bool.not_eq_false', Bool.not_eq_eq_eq_not, Bool.not_true, Bool.not_false, Int.not_lt, Int.not_le] at hb3)
     have hlg := lgt_no hlt (by omega)
     refine GW_skip ?_
     refine GW_region ?_
     refine GL_rd (v := .int _ _) (wn_none rfl) rfl (rd_move rfl rfl) ?_
     refine GL_rd (wn_none rfl) rfl (rd_bin rfl rfl rfl (bo_add64 (by omega))) ?_
     refine GL_rd (v := .int _ _) (wn_none rfl) rfl (rd_assign rfl rfl) ?_
     refine GL_nil ?_
     exact ihL0 (i + 1) _ _ (by simp only []; omega) ⟨_, slots3 rfl rfl rfl, hp, by omega, allL_succ (r := 0) hall (by omega) hlg⟩
   ·(try simp only [decide_eq_true_eq, decide_eq_false_iff_not, Bool.not_eq_true', Bool.not_eq_false', Bool.not_eq_eq_eq_not, Bool.not_true, Bool.not_false, Int.not_lt, Int.not_le] at hb2)
    obtain rfl : m = i := by omega
    rw [List.take_of_length_le (by omega)] at hall
    refine GW_exit ?_
    refine GW_seq ?_
    refine GW_region ?_
    refine GL_rd (v := .slice _ _ _) (wn_none rfl) rfl (rd_move rfl rfl) ?_
    refine GL_call (wn_none rfl) rfl rfl (bi_Uses _ m l _ (hI.keep hp.mod) (cvSl_keep hL hp.mod) (allL_65 hall) (by omega)) rfl ?_
    rintro _ w ⟨gm, rfl, hk⟩
    have hp := hp.comp hk
    refine GL_rd (v := _) (wn_none rfl) rfl (rd_assign rfl rfl) ?_
    refine GL_nil ?_
    refine GW_seq ?_
    refine GW_region ?_
    refine GL_rd (v := .int _ _) (wn_none rfl) rfl (rd_assign rfl rfl) ?_
    refine GL_rd (v := .int _ _) (wn_none rfl) rfl (rd_assign rfl rfl) ?_
    refine GL_nil ?_
    refine GW_seq ?_
    refine GW_seq ?_
    refine GW_region ?_
    refine GL_rd (v := .int _ _) (wn_none rfl) rfl (rd_assign rfl rfl) ?_
    refine GL_nil ?_
    refine GW_block ?_
    refine GW_loop ?_
    refine Lp_ind (α := Nat × Int × Int) (fun a_0 f_0 w' => match a_0 with | (i, b, k0) => ∃ fz, f_0 = (upd (upd (upd (upd (upd (upd fz 0 (.slice A m c)) 1 (.int .i64 t)) 6 (.map (some gm))) 7 (.int .i64 b)) 8 (.int .i64 k0)) 9 (.int .i64 (i : Int))) ∧ Hp w0 [] w' [(.blk gm (.map ⟨cniE 0 (useM l)⟩ (useM l).length))] ∧ (i ≤ m) ∧ (bestOk (visT l (allT (l.take i))) b k0)) (fun a_0 => match a_0 with | (i, b, k0) => m - i) ?_ (0, -1, 0) _ _ ?_
    ·rintro ⟨i, b, k0⟩ f wz ⟨fz, rfl, hp, hi0, hbk⟩ ihL1
     refine Lp_round ?_
     refine GW_seq ?_
     refine GW_seq ?_
     refine GW_region ?_
     refine GL_rd (v := .int _ _) (wn_none rfl) rfl (rd_move rfl rfl) ?_
     refine GL_rd (v := .slice _ _ _) (wn_none rfl) rfl (rd_move rfl rfl) ?_
     refine GL_rd (wn_none rfl) rfl (rd_len rfl rfl Try.underlying96) ?_
     refine GL_rd (wn_none rfl) rfl (rd_bin rfl rfl rfl bo_lss) ?_
     refine GL_nil ?_
     refine GW_cond rfl (fun hb4 => ?_) (fun hb4 => ?_)
     ·(try simp only [decide_eq_true_eq, decide_eq_false_iff_not, Bool.not_eq_true', Bool.not_eq_false', Bool.not_eq_eq_eq_not, Bool.not_true, Bool.not_false, Int.not_lt, Int.not_le] at hb4)
      obtain ⟨gA, bA, rfl⟩ := hI.addr (by rw [flat_length cvC_len]; omega)
      have hHt := (hL _ (mem_at (cvAt_some (l := l) (i := i) (by omega)))).1
      have hTt0 := (hL _ (mem_at (cvAt_some (l := l) (i := i) (by omega)))).2
      have hTt := hTt0
      have hlg := hall _ (mem_at (cvAt_some (l := l) (i := i) (by omega)))
      obtain ⟨hn12, hn30, _⟩ := id hlg
      obtain ⟨At, ct, het⟩ := sl_shape hTt
      rw [het] at hTt
      refine GW_skip ?_
      refine GW_seq ?_
      refine GW_block ?_
      refine GW_seq ?_
      refine GW_region ?_
      refine GL_rd (v := .slice _ _ _) (wn_none rfl) rfl (rd_move rfl rfl) ?_
      refine GL_rd (v := .int _ _) (wn_none rfl) rfl (rd_move rfl rfl) ?_
      refine GL_rd (wn_none rfl) rfl (rd_indexS (j := i) rfl rfl rfl Try.underlying96 ts83 rfl (by omega) _ rfl) ?_
      refine GL_rd (wn_none rfl) rfl (rd_loadN (L := (cvC (cvAt l i))) rfl rfl Try.underlying83 rfl ts83 (cvC_len _) (fun j u hj => ((hI.keep hp.mod).cvE i (by omega) hj))) ?_
      refine GL_call (wn_none rfl) rfl rfl (bi_Copy (cvAt l i).1 _ _ _ _ _ (hHt.keep hp.mod) (hTt0.keep hp.mod) (by omega)) rfl ?_
      rintro _ w ⟨hv5, tv5, rfl, hk⟩
      have hp := hp.comp hk
      obtain ⟨Ah5, ch5, rfl⟩ := row_shape (hp.get 1 rfl)
      obtain ⟨At5, ct5, rfl⟩ := row_shape (hp.get 0 rfl)
      refine GL_alloc (wn_none rfl) rfl rfl tz83 rfl hp ?_
      intro g w hp
      refine GL_store (i := 0) (wn_none rfl) rfl rfl rfl rfl ts83 rfl (clipC_len _ _ _) (clipC_one _ _ _ _ _ _ _) hp rfl (by decide) (splice_all _ _ (by rw [clipC_len]; rfl)) ?_
      intro w hp
      refine GL_nil ?_
      refine GW_seq ?_
      refine GW_seq ?_
      refine GW_drawnK 7 (.one 0 true (.one 1 true (.one 2 true (.one 3 true (.one 4 true (.one 5 false (.one 6 true .nil))))))) mixed (by kernel_rfl) hp (fun _ h => h) fun w hp => ?_
      have hpS := hp
      refine GO_rd rfl rfl (wn_none rfl) rfl hpS (fun w hp => (rd_loadC rfl rfl Try.underlying83 rfl ts83 (hp.get 0 rfl) (clipC_len _ _ _))) ?_
      refine GO_rdT (v := .slice _ _ _) rfl (wn_none rfl) rfl (fun w => (rd_move rfl rfl)) ?_
      refine GO_rdT (v := .int _ _) rfl (wn_none rfl) rfl (fun w => (rd_move rfl rfl)) ?_
      refine GO_rdT rfl (wn_none rfl) rfl (fun w => (rd_indexS (j := i) rfl rfl rfl Try.underlying96 ts83 rfl (by omega) _ rfl)) ?_
      refine GO_rd rfl rfl (wn_none rfl) rfl hpS (fun w hp => (rd_loadN (L := (cvC (cvAt l i))) rfl rfl Try.underlying83 rfl ts83 (cvC_len _) (fun j u hj => ((hI.keep hp.mod).cvE i (by omega) hj)))) ?_
      refine GO_of_GL rfl ?_
      refine GL_call (wn_none rfl) rfl rfl (wk_Same _ _ _ _ _ _ (Sl.row (hp.get 2 rfl)) (Sl.row (hp.get 1 rfl)) (hHt.keep hp.mod) (hTt0.keep hp.mod)) rfl ?_
      rintro _ w ⟨rfl, hk⟩
      have hp := hp.comp hk
      have hpS2 := hp
      refine GL_nil ⟨fun _ => hpS2, ?_⟩
      refine GO_rd rfl rfl (wn_none rfl) rfl hpS2 (fun w hp => (rd_not rfl rfl)) ?_
      refine GO_nil ?_
      refine GW_false rfl ?_
      refine GW_skip ?_
      refine GW_seq ?_
      refine GW_region ?_
      refine GL_rd (v := .int _ _) (wn_none rfl) rfl (rd_assign rfl rfl) ?_
      refine GL_nil ?_
      refine GW_block ?_
      refine GW_loop ?_
      refine Lp_ind (α := Nat × Int × Int) (fun a_0 f_0 w' => match a_0 with | (j, b, k0) => ∃ fz, f_0 = (upd (upd (upd (upd (upd (upd (upd fz 0 (.slice (some ⟨gA, bA, none⟩) m c)) 1 (.int .i64 t)) 6 (.map (some gm))) 7 (.int .i64 b)) 8 (.int .i64 k0)) 9 (.int .i64 (i : Int))) 11 (.int .i64 (j : Int))) ∧ Hp w0 [] w' [(.blk gm (.map ⟨cniE 0 (useM l)⟩ (useM l).length))] ∧ (j ≤ (cvAt l i).1.texts.length) ∧ (bestOk (visT l (allT (l.take i) ++ (cvAt l i).1.texts.take j)) b k0)) (fun a_0 => match a_0 with | (j, b, k0) => (cvAt l i).1.texts.length - j) ?_ (0, b, k0) _ _ ?_
      ·rintro ⟨j, b, k0⟩ f wz ⟨fz, rfl, hp, hj0, hbk⟩ ihL2
       refine Lp_round ?_
       refine GW_seq ?_
       refine GW_seq ?_
       refine GW_region ?_
       refine GL_rd (v := .int _ _) (wn_none rfl) rfl (rd_move rfl rfl) ?_
       refine GL_rd (v := .slice _ _ _) (wn_none rfl) rfl (rd_move rfl rfl) ?_
       refine GL_rd (v := .int _ _) (wn_none rfl) rfl (rd_move rfl rfl) ?_
       refine GL_rd (wn_none rfl) rfl (rd_indexS (j := i) rfl rfl rfl Try.underlying96 ts83 rfl (by omega) _ rfl) ?_
       refine GL_rd (wn_none rfl) rfl (rd_field rfl rfl fa83_7 _ rfl) ?_
       refine GL_rd (v := .slice _ _ _) (wn_none rfl) rfl (rd_load rfl rfl Try.underlying32 rfl (((hI.keep hp.mod).cvE i (by omega) (clip_texts _ _ _)).trans (congrArg some het))) ?_
       refine GL_rd (wn_none rfl) rfl (rd_len rfl rfl Try.underlying32) ?_
       refine GL_rd (wn_none rfl) rfl (rd_bin rfl rfl rfl bo_lss) ?_
       refine GL_nil ?_
       refine GW_cond rfl (fun hb5 => ?_) (fun hb5 => ?_)
       ·(try simp only [decide_eq_true_eq, decide_eq_false_iff_not, Bool.not_eq_true', Bool.not_eq_false', Bool.not_eq_eq_eq_not, Bool.not_true, Bool.not_false, Int.not_lt, Int.not_le] at hb5)
        obtain ⟨gB, bB, rfl⟩ := hTt.addr (by rw [List.length_map]; omega)
        refine GW_skip ?_
        refine GW_seq ?_
        refine GW_block ?_
        refine GW_seq ?_
        refine GW_region ?_
        refine GL_rd (v := .slice _ _ _) (wn_none rfl) rfl (rd_move rfl rfl) ?_
        refine GL_rd (v := .int _ _) (wn_none rfl) rfl (rd_move rfl rfl) ?_
        refine GL_rd (wn_none rfl) rfl (rd_indexS (j := i) rfl rfl rfl Try.underlying96 ts83 rfl (by omega) _ rfl) ?_
        refine GL_rd (wn_none rfl) rfl (rd_field rfl rfl fa83_7 _ rfl) ?_
        refine GL_rd (v := .slice _ _ _) (wn_none rfl) rfl (rd_load rfl rfl Try.underlying32 rfl (((hI.keep hp.mod).cvE i (by omega) (clip_texts _ _ _)).trans (congrArg some het))) ?_
        refine GL_rd (v := .int _ _) (wn_none rfl) rfl (rd_move rfl rfl) ?_
        refine GL_rd (wn_none rfl) rfl (rd_indexS (j := j) rfl rfl rfl Try.underlying32 ts3 rfl (by omega) _ rfl) ?_
        refine GL_rd (wn_none rfl) rfl (rd_load rfl rfl Try.underlying3 rfl ((hTt.keep hp.mod).get _ _ (intAt_cell (i := j) (by omega)))) ?_
        refine GL_rd (v := .int _ _) (wn_none rfl) rfl (rd_assign rfl rfl) ?_
        refine GL_nil ?_
        refine GW_seq ?_
        refine GW_region ?_
        refine GL_rd (v := .slice _ _ _) (wn_none rfl) rfl (rd_move rfl rfl) ?_
        refine GL_rd (v := .int _ _) (wn_none rfl) rfl (rd_move rfl rfl) ?_
        refine GL_call (wn_none rfl) rfl rfl (ref_bUses _ m l (intAt (cvAt l i).1.texts j) _ (hI.keep hp.mod) (cvSl_keep hL hp.mod) (allL_65 hall) (by omega)) rfl ?_
        rintro _ w ⟨rfl, hk⟩
        have hp := hp.comp hk
        refine GL_rd (v := .int _ _) (wn_none rfl) rfl (rd_assign rfl rfl) ?_
        refine GL_nil ?_
        refine GW_seq ?_
        refine GW_seq ?_
        refine GW_region ?_
        refine GL_rd (v := _) (wn_none rfl) rfl (rd_move rfl rfl) ?_
        refine GL_rd (v := .int _ _) (wn_none rfl) rfl (rd_move rfl rfl) ?_
        refine GL_rd (wn_none rfl) rfl (rd_cniG rfl rfl rfl Try.underlying97 Try.underlying3 tz3 (hp.get 0 rfl)) ?_
        refine GL_rd (v := .int _ _) (wn_none rfl) rfl (rd_move rfl rfl) ?_
        refine GL_rd (wn_none rfl) rfl (rd_bin rfl rfl rfl (bo_boolE (q := false) bo_neq (by rw [useM_G]; simp))) ?_
        refine GL_nil ?_
        refine GW_false rfl ?_
        refine GW_skip ?_
        refine GW_seq ?_
        refine GW_region ?_
        refine GL_rd (v := .int _ _) (wn_none rfl) rfl (rd_move rfl rfl) ?_
        refine GL_rd (v := .int _ _) (wn_none rfl) rfl (rd_move rfl rfl) ?_
        refine GL_rd (wn_none rfl) rfl (rd_bin rfl rfl rfl bo_gtr) ?_
        refine GL_rd (v := .bool _) (wn_none rfl) rfl (rd_move rfl rfl) ?_
        refine GL_split (t := 80) (b := _) rfl ?_ ?_
        ·intro hb6; (try simp only [decide_eq_true_eq, decide_eq_false_iff_not, Bool.not_eq_true', Bool.not_eq_false', Bool.not_eq_eq_eq_not, Bool.not_true, Bool.not_false, Int.not_lt, Int.not_le] at hb6)
         have hy : (useN l (intAt (cvAt l i).1.texts j) : Int) > k0 ∨ ((useN l (intAt (cvAt l i).1.texts j) : Int) = k0 ∧ intAt (cvAt l i).1.texts j < b) := by omega
         refine GL_pass (nw_off rfl rfl rfl rfl rfl) rfl ?_
         refine GL_pass (nw_off rfl rfl rfl rfl rfl) rfl ?_
         refine GL_pass (nw_off rfl rfl rfl rfl rfl) rfl ?_
         refine GL_pass (nw_off rfl rfl rfl rfl rfl) rfl ?_
         refine GL_pass (nw_undef rfl rfl rfl rfl) rfl ?_
         refine GL_pass (nw_undef rfl rfl rfl rfl) rfl ?_
         refine GL_pass (nw_undef rfl rfl rfl rfl) rfl ?_
         refine GL_pass (nw_off rfl rfl rfl rfl rfl) rfl ?_
         refine GL_rd (v := .bool _) (wn_none rfl) rfl (rd_pickT rfl rfl rfl) ?_
         refine GL_nil ?_
         refine GW_true rfl ?_
         refine GW_region ?_
         refine GL_rd (v := .int _ _) (wn_none rfl) rfl (rd_move rfl rfl) ?_
         refine GL_rd (v := .int _ _) (wn_none rfl) rfl (rd_move rfl rfl) ?_
         refine GL_rd (v := .int _ _) (wn_none rfl) rfl (rd_assign rfl rfl) ?_
         refine GL_rd (v := .int _ _) (wn_none rfl) rfl (rd_assign rfl rfl) ?_
         refine GL_nil ?_
         refine GW_region ?_
         refine GL_rd (v := .int _ _) (wn_none rfl) rfl (rd_move rfl rfl) ?_
         refine GL_rd (wn_none rfl) rfl (rd_bin rfl rfl rfl (bo_add64 (by omega))) ?_
         refine GL_rd (v := .int _ _) (wn_none rfl) rfl (rd_assign rfl rfl) ?_
         refine GL_nil ?_
         have hp := ((hp.front 0 rfl).take 1)
         exact ihL2 (j + 1, intAt (cvAt l i).1.texts j, (useN l (intAt (cvAt l i).1.texts j) : Int)) _ _ (by simp only []; omega) ⟨_, slots7 rfl rfl rfl rfl rfl rfl rfl, hp, by omega, hbk.yes (visT_next (by omega)) hy⟩
        ·intro hb6; (try simp only [decide_eq_true_eq, decide_eq_false_iff_not, Bool.not_eq_true', Bool.not_eq_false', Bool.not_eq_eq_eq_not, Bool.not_true, Bool.not_false, Int.not_lt, Int.not_le] at hb6)
         refine GL_rd (v := .int _ _) (wn_on rfl rfl rfl rfl) rfl (rd_move rfl rfl) ?_
         refine GL_rd (v := .int _ _) (wn_on rfl rfl rfl rfl) rfl (rd_move rfl rfl) ?_
         refine GL_rd (wn_on rfl rfl rfl rfl) rfl (rd_bin rfl rfl rfl bo_eql) ?_
         refine GL_rd (v := .bool _) (wn_on rfl rfl rfl rfl) rfl (rd_move rfl rfl) ?_
         refine GL_split (t := 84) (b := _) rfl ?_ ?_
         ·intro hb7; (try simp only [decide_eq_true_eq, decide_eq_false_iff_not, Bool.not_eq_true', Bool.not_eq_false', Bool.not_eq_eq_eq_not, Bool.not_true, Bool.not_false, Int.not_lt, Int.not_le] at hb7)
          refine GL_rd (v := .int _ _) (wn_on rfl rfl rfl rfl) rfl (rd_move rfl rfl) ?_
          refine GL_rd (v := .int _ _) (wn_on rfl rfl rfl rfl) rfl (rd_move rfl rfl) ?_
          refine GL_rd (wn_on rfl rfl rfl rfl) rfl (rd_bin rfl rfl rfl bo_lss) ?_
          refine GL_rd (v := .bool _) (wn_on rfl rfl rfl rfl) rfl (rd_pickT rfl rfl rfl) ?_
          refine GL_rd (v := .bool _) (wn_none rfl) rfl (rd_pickF rfl rfl rfl) ?_
          refine GL_nil ?_
          refine GW_cond rfl (fun hb8 => ?_) (fun hb8 => ?_)
          ·(try simp only [decide_eq_true_eq, decide_eq_false_iff_not, Bool.not_eq_true', Bool.not_eq_false', Bool.not_eq_eq_eq_not, Bool.not_true, Bool.not_false, Int.not_lt, Int.not_le] at hb8)
           have hy : (useN l (intAt (cvAt l i).1.texts j) : Int) > k0 ∨ ((useN l (intAt (cvAt l i).1.texts j) : Int) = k0 ∧ intAt (cvAt l i).1.texts j < b) := by omega
           refine GW_region ?_
           refine GL_rd (v := .int _ _) (wn_none rfl) rfl (rd_move rfl rfl) ?_
           refine GL_rd (v := .int _ _) (wn_none rfl) rfl (rd_move rfl rfl) ?_
           refine GL_rd (v := .int _ _) (wn_none rfl) rfl (rd_assign rfl rfl) ?_
           refine GL_rd (v := .int _ _) (wn_none rfl) rfl (rd_assign rfl rfl) ?_
           refine GL_nil ?_
           refine GW_region ?_
           refine GL_rd (v := .int _ _) (wn_none rfl) rfl (rd_move rfl rfl) ?_
           refine GL_rd (wn_none rfl) rfl (rd_bin rfl rfl rfl (bo_add64 (by omega))) ?_
           refine GL_rd (v := .int _ _) (wn_none rfl) rfl (rd_assign rfl rfl) ?_
           refine GL_nil ?_
           have hp := ((hp.front 0 rfl).take 1)
           exact ihL2 (j + 1, intAt (cvAt l i).1.texts j, (useN l (intAt (cvAt l i).1.texts j) : Int)) _ _ (by simp only []; omega) ⟨_, slots7 rfl rfl rfl rfl rfl rfl rfl, hp, by omega, hbk.yes (visT_next (by omega)) hy⟩
          ·(try simp only [decide_eq_true_eq, decide_eq_false_iff_not, Bool.not_eq_true', Bool.not_eq_false', Bool.not_eq_eq_eq_not, Bool.not_true, Bool.not_false, Int.not_lt, Int.not_le] at hb8)
           have hy : ¬ ((useN l (intAt (cvAt l i).1.texts j) : Int) > k0 ∨ ((useN l (intAt (cvAt l i).1.texts j) : Int) = k0 ∧ intAt (cvAt l i).1.texts j < b)) := by omega
           refine GW_skip ?_
           refine GW_region ?_
           refine GL_rd (v := .int _ _) (wn_none rfl) rfl (rd_move rfl rfl) ?_
           refine GL_rd (wn_none rfl) rfl (rd_bin rfl rfl rfl (bo_add64 (by omega))) ?_
           refine GL_rd (v := .int _ _) (wn_none rfl) rfl (rd_assign rfl rfl) ?_
           refine GL_nil ?_
           have hp := ((hp.front 0 rfl).take 1)
           exact ihL2 (j + 1, b, k0) _ _ (by simp only []; omega) ⟨_, slots7 rfl rfl rfl rfl rfl rfl rfl, hp, by omega, hbk.no (visT_next (by omega)) (use_in (by omega) (by omega)) hy⟩
         ·intro hb7; (try simp only [decide_eq_true_eq, decide_eq_false_iff_not, Bool.not_eq_true', Bool.not_eq_false', Bool.not_eq_eq_eq_not, Bool.not_true, Bool.not_false, Int.not_lt, Int.not_le] at hb7)
          have hy : ¬ ((useN l (intAt (cvAt l i).1.texts j) : Int) > k0 ∨ ((useN l (intAt (cvAt l i).1.texts j) : Int) = k0 ∧ intAt (cvAt l i).1.texts j < b)) := by omega
          refine GL_pass (nw_off rfl rfl rfl rfl rfl) rfl ?_
          refine GL_pass (nw_off rfl rfl rfl rfl rfl) rfl ?_
          refine GL_pass (nw_off rfl rfl rfl rfl rfl) rfl ?_
          refine GL_rd (v := .bool _) (wn_on rfl rfl rfl rfl) rfl (rd_pickF rfl rfl rfl) ?_
          refine GL_rd (v := .bool _) (wn_none rfl) rfl (rd_pickF rfl rfl rfl) ?_
          refine GL_nil ?_
          refine GW_false rfl ?_
          refine GW_skip ?_
          refine GW_region ?_
          refine GL_rd (v := .int _ _) (wn_none rfl) rfl (rd_move rfl rfl) ?_
          refine GL_rd (wn_none rfl) rfl (rd_bin rfl rfl rfl (bo_add64 (by omega))) ?_
          refine GL_rd (v := .int _ _) (wn_none rfl) rfl (rd_assign rfl rfl) ?_
          refine GL_nil ?_
          have hp := ((hp.front 0 rfl).take 1)
          exact ihL2 (j + 1, b, k0) _ _ (by simp only []; omega) ⟨_, slots7 rfl rfl rfl rfl rfl rfl rfl, hp, by omega, hbk.no (visT_next (by omega)) (use_in (by omega) (by omega)) hy⟩
       ·(try simp only [decide_eq_true_eq, decide_eq_false_iff_not, Bool.not_eq_true', Bool.not_eq_false', Bool.not_eq_eq_eq_not, Bool.not_true, Bool.not_false, Int.not_lt, Int.not_le] at hb5)
        obtain rfl : j = (cvAt l i).1.texts.length := by omega
        refine GW_exit ?_
        refine GW_region ?_
        refine GL_rd (v := .int _ _) (wn_none rfl) rfl (rd_move rfl rfl) ?_
        refine GL_rd (wn_none rfl) rfl (rd_bin rfl rfl rfl (bo_add64 (by omega))) ?_
        refine GL_rd (v := .int _ _) (wn_none rfl) rfl (rd_assign rfl rfl) ?_
        refine GL_nil ?_
        have hp := ((hp.front 0 rfl).take 1)
        exact ihL1 (i + 1, b, k0) _ _ (by simp only []; omega) ⟨_, slots6 rfl rfl rfl rfl rfl rfl, hp, by omega, hbk.congr (visT_row (by omega))⟩
      ·have hp := ((hp.front 3 rfl).take 1)
       refine ⟨_, slots7 rfl rfl rfl rfl rfl rfl rfl, hp, Nat.zero_le _, by rw [List.take_zero, List.append_nil]; exact hbk⟩
     ·(try simp only [decide_eq_true_eq, decide_eq_false_iff_not, Bool.not_eq_true', Bool.not_eq_false', Bool.not_eq_eq_eq_not, Bool.not_true, Bool.not_false, Int.not_lt, Int.not_le] at hb4)
      obtain rfl : m = i := by omega
      rw [List.take_of_length_le (by omega)] at hbk
      have hmo := visT_most hbk
      refine GW_exit ?_
      refine GW_seq ?_
      refine GW_drawnK 21 (.one 0 true (.one 1 true (.one 2 true (.one 3 true (.one 4 true (.one 5 false (.one 6 true (.one 7 true (.one 8 true (.one 10 true (.one 9 false (.one 11 true (.one 12 true (.one 13 true (.one 14 true (.one 15 true (.one 16 true (.one 17 true (.one 18 false (.one 19 true (.one 20 true .nil))))))))))))))))))))) mixed (by kernel_rfl) hp (fun _ h => h) fun w hp => ?_
      have hpS3 := hp
      refine GO_rdT (v := _) rfl (wn_none rfl) rfl (fun w => (rd_move rfl rfl)) ?_
      refine GO_rdT (v := .int _ _) rfl (wn_none rfl) rfl (fun w => (rd_move rfl rfl)) ?_
      refine GO_rd rfl rfl (wn_none rfl) rfl hpS3 (fun w hp => (rd_cniG rfl rfl rfl Try.underlying97 Try.underlying3 tz3 (hp.get 0 rfl))) ?_
      refine GO_rdT (v := .slice _ _ _) rfl (wn_none rfl) rfl (fun w => (rd_move rfl rfl)) ?_
      refine GO_rdT (v := .int _ _) rfl (wn_none rfl) rfl (fun w => (rd_move rfl rfl)) ?_
      refine GO_of_GL rfl ?_
      refine GL_call (wn_none rfl) rfl rfl (ref_bUses _ m l t _ (hI.keep hp.mod) (cvSl_keep hL hp.mod) (allL_65 hall) (by omega)) rfl ?_
      rintro _ w ⟨rfl, hk⟩
      have hp := hp.comp hk
      have hpS4 := hp
      refine GL_nil ⟨fun _ => hpS4, ?_⟩
      refine GO_rd rfl rfl (wn_none rfl) rfl hpS4 (fun w hp => (rd_bin rfl rfl rfl (bo_boolE (q := true) bo_eql (decide_eq_true (useM_G t l))))) ?_
      refine GO_rdT (v := .bool _) rfl (wn_none rfl) rfl (fun w => (rd_move rfl rfl)) ?_
      refine GO_rdT (v := .slice _ _ _) rfl (wn_on rfl rfl rfl rfl) rfl (fun w => (rd_move rfl rfl)) ?_
      refine GO_rdT (v := .int _ _) rfl (wn_on rfl rfl rfl rfl) rfl (fun w => (rd_move rfl rfl)) ?_
      refine GO_of_GL rfl ?_
      refine GL_call (wn_on rfl rfl rfl rfl) rfl rfl (wk_Most _ m l b _ (hI.keep hp.mod) (cvSl_keep hL hp.mod) (allL_65 hall) (by omega) hmo) rfl ?_
      rintro _ w ⟨rfl, hk⟩
      have hp := hp.comp hk
      have hpS5 := hp
      refine GL_nil ⟨fun _ => hpS5, ?_⟩
      refine GO_rd rfl rfl (wn_on rfl rfl rfl rfl) rfl hpS5 (fun w hp => (rd_bin rfl rfl rfl (bo_boolE (q := true) bo_eql (decide_eq_true rfl)))) ?_
      refine GO_rdT (v := .bool _) rfl (wn_on rfl rfl rfl rfl) rfl (fun w => (rd_move rfl rfl)) ?_
      refine GO_pass rfl (nw_off rfl rfl rfl rfl rfl) rfl ?_
      refine GO_pass rfl (nw_off rfl rfl rfl rfl rfl) rfl ?_
      refine GO_rdT (v := .bool _) rfl (wn_on rfl rfl rfl rfl) rfl (fun w => (rd_pickT rfl rfl rfl)) ?_
      refine GO_rdT (v := .bool _) rfl (wn_none rfl) rfl (fun w => (rd_pickT rfl rfl rfl)) ?_
      refine GO_rdT (v := .bool _) rfl (wn_none rfl) rfl (fun w => (rd_move rfl rfl)) ?_
      refine GO_of_GL rfl ?_
      refine GL_call (wn_on rfl rfl rfl rfl) rfl rfl (law_bworks _) rfl ?_
      rintro _ w ⟨rfl, hk⟩
      have hp := hp.comp hk
      have hpS6 := hp
      refine GL_nil ⟨fun _ => hpS6, ?_⟩
      refine GO_rdT (v := .bool _) rfl (wn_none rfl) rfl (fun w => (rd_pickT rfl rfl rfl)) ?_
      refine GO_rdT (v := .bool _) rfl (wn_none rfl) rfl (fun w => (rd_assign rfl rfl)) ?_
      refine GO_nil ?_
      refine GW_ret ?_
      exact ⟨_, res1 Try.results12 (rv_tmp (v := .bool _) rfl rfl), rfl, hp.mods⟩
    ·refine ⟨_, slots6 rfl rfl rfl rfl rfl rfl, hp, Nat.zero_le _, bestOk.first visT_start⟩
  ·refine ⟨_, slots3 rfl rfl rfl, hp, Nat.zero_le _, fun x hx => (by cases hx)⟩
set_option maxHeartbeats 2000000 in
theorem law_BinderOne (c d : Clp) (hv tv ha ta : Value) (mh mt nh nt : Nat) (w0 : World) (hH : Sl w0 hv 1 mh (c.holds.map Value.string)) (hT : Sl w0 tv 1 mt (c.texts.map (Value.int .i64))) (dH : Sl w0 ha 1 nh (d.holds.map Value.string)) (dT : Sl w0 ta 1 nt (d.texts.map (Value.int .i64))) : Does Try.prog 13 #[.agg ⟨clipC c hv tv⟩, .agg ⟨clipC d ha ta⟩] w0 fun v w' => v = .bool true ∧ Hp w0 [] w' [] := by
 obtain ⟨A, ch, rfl⟩ := sl_shape hH
 obtain ⟨B, ct, rfl⟩ := sl_shape hT
 obtain rfl : mh = c.holds.length := by have := hH.len; rw [List.length_map] at this; omega
 obtain rfl : mt = c.texts.length := by have := hT.len; rw [List.length_map] at this; omega
 obtain ⟨A', ch', rfl⟩ := sl_shape dH
 obtain ⟨B', ct', rfl⟩ := sl_shape dT
 obtain rfl : nh = d.holds.length := by have := dH.len; rw [List.length_map] at this; omega
 obtain rfl : nt = d.texts.length := by have := dT.len; rw [List.length_map] at this; omega
 refine does_of (l := [.agg ⟨(clipC c (.slice A c.holds.length ch) (.slice B c.texts.length ct))⟩, .agg ⟨clipC d (.slice A' d.holds.length ch') (.slice B' d.texts.length ct')⟩]) Try.func13 (by kernel_rfl) rfl Try.ntmps13 rfl rfl ?_
 have hp := Hp.refl w0 []
 refine GW_seq ?_
 refine GW_region ?_
 refine GL_box (wn_none rfl) rfl rfl rfl rfl hp ?_
 intro g w hp
 refine GL_box (wn_none rfl) rfl rfl rfl rfl hp ?_
 intro g2 w hp
 refine GL_rd (v := .bool _) (wn_none rfl) rfl (rd_assign rfl rfl) ?_
 refine GL_nil ?_
 refine GW_seq ?_
 refine GW_seq ?_
 refine GW_region ?_
 refine GL_rd (wn_none rfl) rfl (rd_loadC rfl rfl Try.underlying83 rfl ts83 (hp.get 1 rfl) (clipC_len _ _ _)) ?_
 refine GL_call (wn_none rfl) rfl rfl (law_bLight c _ _ _ _ _ (hH.keep hp.mod) (hT.keep hp.mod)) rfl ?_
 rintro _ w ⟨r, rfl, hlt, hk⟩
 have hp := hp.comp hk
 refine GL_rd (wn_none rfl) rfl (rd_bin rfl rfl rfl bo_gtr) ?_
 refine GL_rd (v := .bool _) (wn_none rfl) rfl (rd_move rfl rfl) ?_
 refine GL_split (t := 12) (b := _) rfl ?_ ?_
 ·intro hb; (try simp only [decide_eq_true_eq, decide_eq_false_iff_not, Bool.not_eq_true', Bool.not_eq_false', Bool.not_eq_eq_eq_not, Bool.not_true, Bool.not_false, Int.not_lt, Int.not_le] at hb)
  refine GL_pass (nw_off rfl rfl rfl rfl rfl) rfl ?_
  refine GL_pass (nw_off rfl rfl rfl rfl rfl) rfl ?_
  refine GL_pass (nw_off rfl rfl rfl rfl rfl) rfl ?_
  refine GL_rd (v := .bool _) (wn_none rfl) rfl (rd_pickT rfl rfl rfl) ?_
  refine GL_nil ?_
  refine GW_true rfl ?_
  refine GW_seq ?_
  refine GW_region ?_
  refine GL_call (wn_none rfl) rfl rfl (law_bworks _) rfl ?_
  rintro _ w ⟨rfl, hk⟩
  have hp := hp.comp hk
  refine GL_rd (v := .bool _) (wn_none rfl) rfl (rd_assign rfl rfl) ?_
  refine GL_nil ?_
  refine GW_ret ?_
  exact ⟨_, res1 Try.results13 (rv_tmp (v := .bool _) rfl rfl), rfl, hp.mods⟩
 ·intro hb; (try simp only [decide_eq_true_eq, decide_eq_false_iff_not, Bool.not_eq_true', Bool.not_eq_false', Bool.not_eq_eq_eq_not, Bool.not_true, Bool.not_false, Int.not_lt, Int.not_le] at hb)
  have hlg := lgt_no hlt (by omega)
  refine GL_rd (wn_on rfl rfl rfl rfl) rfl (rd_loadC rfl rfl Try.underlying83 rfl ts83 (hp.get 0 rfl) (clipC_len _ _ _)) ?_
  refine GL_call (wn_on rfl rfl rfl rfl) rfl rfl (law_bLight d _ _ _ _ _ (dH.keep hp.mod) (dT.keep hp.mod)) rfl ?_
  rintro _ w ⟨r2, rfl, hlt2, hk⟩
  have hp := hp.comp hk
  refine GL_rd (wn_on rfl rfl rfl rfl) rfl (rd_bin rfl rfl rfl bo_gtr) ?_
  refine GL_rd (v := .bool _) (wn_none rfl) rfl (rd_pickF rfl rfl rfl) ?_
  refine GL_nil ?_
  refine GW_cond rfl (fun hb2 => ?_) (fun hb2 => ?_)
  ·(try simp only [decide_eq_true_eq, decide_eq_false_iff_not, Bool.not_eq_true', Bool.not_eq_false', Bool.not_eq_eq_eq_not, Bool.not_true, Bool.not_false, Int.not_lt, Int.not_le] at hb2)
   refine GW_seq ?_
   refine GW_region ?_
   refine GL_call (wn_none rfl) rfl rfl (law_bworks _) rfl ?_
   rintro _ w ⟨rfl, hk⟩
   have hp := hp.comp hk
   refine GL_rd (v := .bool _) (wn_none rfl) rfl (rd_assign rfl rfl) ?_
   refine GL_nil ?_
   refine GW_ret ?_
   exact ⟨_, res1 Try.results13 (rv_tmp (v := .bool _) rfl rfl), rfl, hp.mods⟩
  ·(try simp only [decide_eq_true_eq, decide_eq_false_iff_not, Bool.not_eq_true', Bool.not_eq_false', Bool.not_eq_eq_eq_not, Bool.not_true, Bool.not_false, Int.not_lt, Int.not_le] at hb2)
   have hlg2 := lgt_no hlt2 (by omega)
   refine GW_skip ?_
   refine GW_seq ?_
   refine GW_region ?_
   refine GL_rd (wn_none rfl) rfl (rd_loadC rfl rfl Try.underlying83 rfl ts83 (hp.get 1 rfl) (clipC_len _ _ _)) ?_
   refine GL_call (wn_none rfl) rfl rfl (bi_Put c _ _ _ _ _ (hH.keep hp.mod) (hT.keep hp.mod) hlg.hz (by have := hlg.2.2.1; omega)) rfl ?_
   rintro _ w ⟨rfl, hk⟩
   have hp := hp.comp hk
   refine GL_rd (v := .tuple _) (wn_none rfl) rfl (rd_move rfl rfl) ?_
   refine GL_rd (v := .agg ⟨_⟩) (wn_none rfl) rfl (rd_extract rfl rfl rfl) ?_
   refine GL_rd (v := .int _ _) (wn_none rfl) rfl (rd_extract rfl rfl rfl) ?_
   refine GL_alloc (wn_none rfl) rfl rfl tz44 rfl hp ?_
   intro g3 w hp
   refine GL_store (i := 0) (wn_none rfl) rfl rfl rfl rfl ts44 rfl (by rw [bys_length, secC_length]) (bys_one _) hp rfl (by rw [List.length_replicate]; decide) (splice_all _ _ (by rw [bys_length, secC_length, List.length_replicate])) ?_
   intro w hp
   refine GL_rd (v := .int _ _) (wn_none rfl) rfl (rd_assign rfl rfl) ?_
   refine GL_nil ?_
   refine GW_seq ?_
   refine GW_region ?_
   refine GL_rd (wn_none rfl) rfl (rd_loadC rfl rfl Try.underlying83 rfl ts83 (hp.get 1 rfl) (clipC_len _ _ _)) ?_
   refine GL_call (wn_none rfl) rfl rfl (bi_Put d _ _ _ _ _ (dH.keep hp.mod) (dT.keep hp.mod) hlg2.hz (by have := hlg2.2.2.1; omega)) rfl ?_
   rintro _ w ⟨rfl, hk⟩
   have hp := hp.comp hk
   refine GL_rd (v := .tuple _) (wn_none rfl) rfl (rd_move rfl rfl) ?_
   refine GL_rd (v := .agg ⟨_⟩) (wn_none rfl) rfl (rd_extract rfl rfl rfl) ?_
   refine GL_rd (v := .int _ _) (wn_none rfl) rfl (rd_extract rfl rfl rfl) ?_
   refine GL_alloc (wn_none rfl) rfl rfl tz44 rfl hp ?_
   intro g4 w hp
   refine GL_store (i := 0) (wn_none rfl) rfl rfl rfl rfl ts44 rfl (by rw [bys_length, secC_length]) (bys_one _) hp rfl (by rw [List.length_replicate]; decide) (splice_all _ _ (by rw [bys_length, secC_length, List.length_replicate])) ?_
   intro w hp
   refine GL_rd (v := .int _ _) (wn_none rfl) rfl (rd_assign rfl rfl) ?_
   refine GL_nil ?_
   refine GW_seq ?_
   refine GW_seq ?_
   refine GW_region ?_
   refine GL_rd (v := .int _ _) (wn_none rfl) rfl (rd_move rfl rfl) ?_
   refine GL_rd (wn_none rfl) rfl (rd_bin rfl rfl rfl bo_neq) ?_
   refine GL_rd (v := .bool _) (wn_none rfl) rfl (rd_move rfl rfl) ?_
   refine GL_split (t := 30) (b := _) rfl ?_ ?_
   ·intro hb3; (try simp only [decide_eq_true_eq, decide_eq_false_iff_not, Bool.not_eq_true', Bool.not_eq_false', Bool.not_eq_eq_eq_not, Bool.not_true, Bool.not_false, Int.not_lt, Int.not_le] at hb3)
    refine GL_pass (nw_off rfl rfl rfl rfl rfl) rfl ?_
    refine GL_pass (nw_off rfl rfl rfl rfl rfl) rfl ?_
    refine GL_rd (v := .bool _) (wn_none rfl) rfl (rd_pickT rfl rfl rfl) ?_
    refine GL_nil ?_
    refine GW_true rfl ?_
    refine GW_seq ?_
    refine GW_region ?_
    refine GL_call (wn_none rfl) rfl rfl (law_bworks _) rfl ?_
    rintro _ w ⟨rfl, hk⟩
    have hp := hp.comp hk
    refine GL_rd (v := .bool _) (wn_none rfl) rfl (rd_assign rfl rfl) ?_
    refine GL_nil ?_
    refine GW_ret ?_
    exact ⟨_, res1 Try.results13 (rv_tmp (v := .bool _) rfl rfl), rfl, hp.mods⟩
   ·intro hb3; (try simp only [decide_eq_true_eq, decide_eq_false_iff_not, Bool.not_eq_true', Bool.not_eq_false', Bool.not_eq_eq_eq_not, Bool.not_true, Bool.not_false, Int.not_lt, Int.not_le] at hb3)
    have hokc := hb3
    refine GL_rd (v := .int _ _) (wn_on rfl rfl rfl rfl) rfl (rd_move rfl rfl) ?_
    refine GL_rd (wn_on rfl rfl rfl rfl) rfl (rd_bin rfl rfl rfl bo_neq) ?_
    refine GL_rd (v := .bool _) (wn_none rfl) rfl (rd_pickF rfl rfl rfl) ?_
    refine GL_nil ?_
    refine GW_cond rfl (fun hb4 => ?_) (fun hb4 => ?_)
    ·(try simp only [decide_eq_true_eq, decide_eq_false_iff_not, Bool.not_eq_true', Bool.not_eq_false', Bool.not_eq_eq_eq_not, Bool.not_true, Bool.not_false, Int.not_lt, Int.not_le] at hb4)
     refine GW_seq ?_
     refine GW_region ?_
     refine GL_call (wn_none rfl) rfl rfl (law_bworks _) rfl ?_
     rintro _ w ⟨rfl, hk⟩
     have hp := hp.comp hk
     refine GL_rd (v := .bool _) (wn_none rfl) rfl (rd_assign rfl rfl) ?_
     refine GL_nil ?_
     refine GW_ret ?_
     exact ⟨_, res1 Try.results13 (rv_tmp (v := .bool _) rfl rfl), rfl, hp.mods⟩
    ·(try simp only [decide_eq_true_eq, decide_eq_false_iff_not, Bool.not_eq_true', Bool.not_eq_false', Bool.not_eq_eq_eq_not, Bool.not_true, Bool.not_false, Int.not_lt, Int.not_le] at hb4)
     have hokd := hb4
     refine GW_skip ?_
     refine GW_seq ?_
     refine GW_drawnK 11 (.one 0 true (.one 1 true (.one 2 true (.one 3 true (.one 4 true (.one 5 false (.one 6 true (.one 7 true (.one 8 false (.one 9 true (.one 10 true .nil))))))))))) mixed (by kernel_rfl) hp (fun _ h => h) fun w hp => ?_
     have hpS := hp
     refine GO_rd rfl rfl (wn_none rfl) rfl hpS (fun w hp => (rd_loadC rfl rfl Try.underlying44 rfl ts44 (hp.get 1 rfl) (by rw [bys_length, secC_length]))) ?_
     refine GO_rd rfl rfl (wn_none rfl) rfl hpS (fun w hp => (rd_loadC rfl rfl Try.underlying44 rfl ts44 (hp.get 0 rfl) (by rw [bys_length, secC_length]))) ?_
     refine GO_rd rfl rfl (wn_none rfl) rfl hpS (fun w hp => (rd_bin rfl rfl rfl ((bo_arrB Try.underlying44 Try.underlying5 ts5 (by kernel_rfl) (secC_length _) (secC_length _)).1))) ?_
     refine GO_rd rfl rfl (wn_none rfl) rfl hpS (fun w hp => (rd_loadC rfl rfl Try.underlying83 rfl ts83 (hp.get 3 rfl) (clipC_len _ _ _))) ?_
     refine GO_rd rfl rfl (wn_none rfl) rfl hpS (fun w hp => (rd_loadC rfl rfl Try.underlying83 rfl ts83 (hp.get 2 rfl) (clipC_len _ _ _))) ?_
     refine GO_of_GL rfl ?_
     refine GL_call (wn_none rfl) rfl rfl (ref_kSame c d _ _ _ _ _ (hH.keep hp.mod) (hT.keep hp.mod) (dH.keep hp.mod) (dT.keep hp.mod)) rfl ?_
     rintro _ w ⟨rs, rfl, hrs, hk⟩
     have hp := hp.comp hk
     have hpS2 := hp
     refine GL_nil ⟨fun _ => hpS2, ?_⟩
     refine GO_rd rfl rfl (wn_none rfl) rfl hpS2 (fun w hp => (rd_bin rfl rfl rfl (bo_boolE (q := true) (bo_beql Try.underlying4) (boolEq (dec_same (sec_inj hokc hokd) hrs))))) ?_
     refine GO_rdT (v := .bool _) rfl (wn_none rfl) rfl (fun w => (rd_move rfl rfl)) ?_
     refine GO_of_GL rfl ?_
     refine GL_call (wn_on rfl rfl rfl rfl) rfl rfl (law_bworks _) rfl ?_
     rintro _ w ⟨rfl, hk⟩
     have hp := hp.comp hk
     have hpS3 := hp
     refine GL_nil ⟨fun _ => hpS3, ?_⟩
     refine GO_rdT (v := .bool _) rfl (wn_none rfl) rfl (fun w => (rd_pickT rfl rfl rfl)) ?_
     refine GO_rdT (v := .bool _) rfl (wn_none rfl) rfl (fun w => (rd_assign rfl rfl)) ?_
     refine GO_nil ?_
     refine GW_ret ?_
     exact ⟨_, res1 Try.results13 (rv_tmp (v := .bool _) rfl rfl), rfl, hp.mods⟩
end Go.Proofs.Ytblpmjbddpadcaa
