/- Walks of functions of the program. -/
import Derived.Test.YtpagpmioopaciaaBFBuX
set_option linter.unusedVariables false
set_option linter.unusedSimpArgs false
namespace Go.Proofs.Ytpagpmioopaciaa
open Go.Mo Go.RowKit
set_option maxHeartbeats 1000000 in
theorem law_BundleBack (b : Bu) (tv av yv : Value) (l : List UInt8) (w0 : World) (hB : BuAt b tv av w0) (hI : Sl w0 yv 1 l.length (bys l)) : Does Try.prog 7 #[.agg ⟨buC b tv av⟩, yv] w0 fun v w' => v = .bool true ∧ Hp w0 [] w' [] := by
 obtain ⟨At, ct, rfl⟩ := sl_shape hB.tx
 obtain ⟨Aa, ca, rfl⟩ := sl_shape hB.au
 have htx := hB.tx
 have hau := hB.au
 have htl := htx.le
 obtain ⟨Ay, cy, rfl⟩ := sl_shape hI
 refine does_of (l := [.agg ⟨(buC b (.slice At b.tx.length ct) (.slice Aa b.au.length ca))⟩, .slice Ay l.length cy]) Try.func7 (by kernel_rfl) rfl Try.ntmps7 rfl rfl (by kernel_rfl) ?_
 have hp := Hp.refl w0 []
 refine GW_seq ?_
 refine GW_region ?_
 refine GL_box (wn_none rfl) rfl rfl rfl rfl hp ?_
 intro g w hp
 refine GL_rd (v := .bool _) (wn_none rfl) rfl (rd_assign rfl rfl) ?_
 refine GL_nil ?_
 refine GW_seq ?_
 refine GW_seq ?_
 refine GW_region ?_
 refine GL_rd (wn_none rfl) rfl (rd_loadC rfl rfl Try.underlying78 rfl ts78 (hp.get 0 rfl) (by first | (rw [bys_length]; first | exact a32_len _) | rfl | simp [bys_length, *])) ?_
 refine GL_call (wn_none rfl) rfl rfl (bu_light b _ _ _ (hB.keep hp.mod)) rfl ?_
 rintro _ w ⟨rfl, hk⟩
 have hp := hp.comp hk
 refine GL_rd (wn_none rfl) rfl (rd_not rfl rfl) ?_
 refine GL_rd (v := .bool _) (wn_none rfl) rfl (rd_move rfl rfl) ?_
 refine GL_split (t := 16) (b := _) rfl ?_ ?_
 ·intro hb; (try simp only [decide_eq_true_eq, decide_eq_false_iff_not, Bool.not_eq_true', Bool.not_eq_false', Bool.not_eq_eq_eq_not, Bool.not_true, Bool.not_false, Int.not_lt, Int.not_le] at hb)
  refine GL_pass (nw_off rfl rfl rfl rfl rfl) rfl ?_
  refine GL_pass (nw_off rfl rfl rfl rfl rfl) rfl ?_
  refine GL_pass (nw_off rfl rfl rfl rfl rfl) rfl ?_
  refine GL_rd (v := .bool _) (wn_none rfl) rfl (rd_pickT rfl rfl rfl) ?_
  refine GL_nil ?_
  refine GW_true rfl ?_
  refine GW_seq ?_
  refine GW_region ?_
  refine GL_call (wn_none rfl) rfl rfl (law_bworks _) rfl ?_
  rintro _ w ⟨rfl, hk⟩
  have hp := hp.comp hk
  refine GL_rd (v := .bool _) (wn_none rfl) rfl (rd_assign rfl rfl) ?_
  refine GL_nil ?_
  refine GW_ret ?_
  exact ⟨_, res1 Try.results7 (rv_tmp (v := .bool _) rfl rfl), rfl, hp.mods⟩
 ·intro hb; (try simp only [decide_eq_true_eq, decide_eq_false_iff_not, Bool.not_eq_true', Bool.not_eq_false', Bool.not_eq_eq_eq_not, Bool.not_true, Bool.not_false, Int.not_lt, Int.not_le] at hb)
  have hlit : litBu b = true := by simpa using hb
  have hsm := litBu_sm hlit
  refine GL_rd (v := .slice _ _ _) (wn_on rfl rfl rfl rfl) rfl (rd_move rfl rfl) ?_
  refine GL_rd (wn_on rfl rfl rfl rfl) rfl (rd_len rfl rfl Try.underlying33) ?_
  refine GL_rd (wn_on rfl rfl rfl rfl) rfl (rd_bin rfl rfl rfl bo_gtr) ?_
  refine GL_rd (v := .bool _) (wn_none rfl) rfl (rd_pickF rfl rfl rfl) ?_
  refine GL_nil ?_
  refine GW_cond rfl (fun hb2 => ?_) (fun hb2 => ?_)
  ·(try simp only [decide_eq_true_eq, decide_eq_false_iff_not, Bool.not_eq_true', Bool.not_eq_false', Bool.not_eq_eq_eq_not, Bool.not_true, Bool.not_false, Int.not_lt, Int.not_le] at hb2)
   refine GW_seq ?_
   refine GW_region ?_
   refine GL_call (wn_none rfl) rfl rfl (law_bworks _) rfl ?_
   rintro _ w ⟨rfl, hk⟩
   have hp := hp.comp hk
   refine GL_rd (v := .bool _) (wn_none rfl) rfl (rd_assign rfl rfl) ?_
   refine GL_nil ?_
   refine GW_ret ?_
   exact ⟨_, res1 Try.results7 (rv_tmp (v := .bool _) rfl rfl), rfl, hp.mods⟩
  ·(try simp only [decide_eq_true_eq, decide_eq_false_iff_not, Bool.not_eq_true', Bool.not_eq_false', Bool.not_eq_eq_eq_not, Bool.not_true, Bool.not_false, Int.not_lt, Int.not_le] at hb2)
   refine GW_skip ?_
   refine GW_seq ?_
   refine GW_region ?_
   refine GL_rd (wn_none rfl) rfl (rd_loadC rfl rfl Try.underlying78 rfl ts78 (hp.get 0 rfl) (by first | (rw [bys_length]; first | exact a32_len _) | rfl | simp [bys_length, *])) ?_
   refine GL_call (wn_none rfl) rfl rfl (bu_own b _ _ _ (hB.keep hp.mod)) rfl ?_
   rintro _ w ⟨rfl, hk⟩
   have hp := hp.comp hk
   refine GL_call (wn_none rfl) rfl rfl (bu_Put b _ _ _ (hB.keep hp.mod) hsm) rfl ?_
   rintro _ w ⟨pv, rfl, hk⟩
   have hp := hp.comp hk
   obtain ⟨Ap, cp, rfl⟩ := row_shape (hp.get 0 rfl)
   refine GL_rd (v := .tuple _) (wn_none rfl) rfl (rd_move rfl rfl) ?_
   refine GL_rd (v := .slice _ _ _) (wn_none rfl) rfl (rd_extract rfl rfl rfl) ?_
   refine GL_rd (v := .int _ _) (wn_none rfl) rfl (rd_extract rfl rfl rfl) ?_
   refine GL_rd (v := .slice _ _ _) (wn_none rfl) rfl (rd_assign rfl rfl) ?_
   refine GL_rd (v := .int _ _) (wn_none rfl) rfl (rd_assign rfl rfl) ?_
   refine GL_nil ?_
   refine GW_cut (fun f_0 w' => ∃ (fz : _), f_0 = (upd (upd fz 1 (.slice Ay l.length cy)) 2 (.pointer (some ⟨g, 0, none⟩))) ∧ Hp w0 [] w' [cells g 78 (buC b (.slice At b.tx.length ct) (.slice Aa b.au.length ca))]) ?_ ?_
   ·skip
    refine GW_seq ?_
    refine GW_region ?_
    refine GL_rd (v := .int _ _) (wn_none rfl) rfl (rd_move rfl rfl) ?_
    refine GL_rd (wn_none rfl) rfl (rd_bin rfl rfl rfl bo_eql) ?_
    refine GL_nil ?_
    refine GW_cond rfl (fun hb3 => ?_) (fun hb3 => ?_)
    ·(try simp only [decide_eq_true_eq, decide_eq_false_iff_not, Bool.not_eq_true', Bool.not_eq_false', Bool.not_eq_eq_eq_not, Bool.not_true, Bool.not_false, Int.not_lt, Int.not_le] at hb3)
     have hk0 : buK b = 0 := hb3
     obtain ⟨hl20, hlm⟩ := bu_len hk0
     refine GW_seq ?_
     refine GW_region ?_
     refine GL_rd (v := .slice _ _ _) (wn_none rfl) rfl (rd_move rfl rfl) ?_
     refine GL_call (wn_none rfl) rfl rfl (bu_Get _ (buBytes b) _ (Sl.row (hp.get 0 rfl))) rfl ?_
     rintro _ w ⟨La, ca, Ha, rfl, hTa, hEa, hFa, hk⟩
     have hp := hp.comp hk
     obtain ⟨rfl, B, tv2, av2, rfl, ho1, ho2, hBb, hBs, rfl⟩ := hTa.yes (getB_put hk0 hlm)
     have hsb := bare_eq hBb
     refine GL_rd (v := .tuple _) (wn_none rfl) rfl (rd_move rfl rfl) ?_
     refine GL_rd (v := .agg ⟨_⟩) (wn_none rfl) rfl (rd_extract rfl rfl rfl) ?_
     refine GL_rd (v := .int _ _) (wn_none rfl) rfl (rd_extract rfl rfl rfl) ?_
     refine GL_alloc (wn_none rfl) rfl rfl tz82 rfl hp ?_
     intro g2 w hp
     refine GL_store (i := 0) (wn_none rfl) rfl rfl rfl rfl ts82 rfl rfl (oneC rfl (oneC rfl (oneC rfl (oneC ho1 (oneC ho2 one0))))) hp rfl (by first | exact Nat.le_of_ble_eq_true rfl | simp [bys_length, *]) rfl ?_
     intro w hp
     refine GL_rd (v := .int _ _) (wn_none rfl) rfl (rd_assign rfl rfl) ?_
     refine GL_nil ?_
     refine GW_seq ?_
     refine GW_drawnK 9 (.one 0 true (.one 1 true (.one 2 true (.one 3 true (.one 4 true (.one 5 false (.one 6 false (.one 7 true (.one 8 true .nil))))))))) mixed (by kernel_rfl) hp (fun _ h => h) fun w hp => ?_
     have hpS := hp
     refine GO_rdT (v := .int _ _) rfl (wn_none rfl) rfl (fun w => (rd_move rfl rfl)) ?_
     refine GO_rd rfl rfl (wn_none rfl) rfl hpS (fun w hp => (rd_bin rfl rfl rfl (bo_boolE bo_neq rfl))) ?_
     refine GO_rdT (v := .bool _) rfl (wn_none rfl) rfl (fun w => (rd_move rfl rfl)) ?_
     refine GO_rd rfl rfl (wn_on rfl rfl rfl rfl) rfl hpS (fun w hp => (rd_loadC rfl rfl Try.underlying82 rfl ts82 (hp.get 0 rfl) (by first | (rw [bys_length]; first | exact a32_len _) | rfl | simp [bys_length, *]))) ?_
     refine GO_rd rfl rfl (wn_on rfl rfl rfl rfl) rfl hpS (fun w hp => (rd_loadC rfl rfl Try.underlying78 rfl ts78 (hp.get 5 rfl) (by first | (rw [bys_length]; first | exact a32_len _) | rfl | simp [bys_length, *]))) ?_
     refine GO_of_GL rfl ?_
     refine GL_call (wn_on rfl rfl rfl rfl) rfl rfl (bu_own b _ _ _ (hB.keep hp.mod)) rfl ?_
     rintro _ w ⟨rfl, hk⟩
     have hp := hp.comp hk
     have hpS2 := hp
     refine GL_nil ⟨fun _ => hpS2, ?_⟩
     refine GO_of_GL rfl ?_
     refine GL_call (wn_on rfl rfl rfl rfl) rfl rfl (bu_Same B b tv2 av2 _ _ _ ⟨Sl.row (hp.get 1 rfl), rowsZ_sl (hp.get 2 rfl), Sl.row (hp.get 3 rfl)⟩ (hB.keep hp.mod)) rfl ?_
     rintro _ w ⟨rfl, hk⟩
     have hp := hp.comp hk
     rw [decide_eq_true (sameQ_iff.2 hsb)]
     have hpS3 := hp
     refine GL_nil ⟨fun _ => hpS3, ?_⟩
     refine GO_rd rfl rfl (wn_on rfl rfl rfl rfl) rfl hpS3 (fun w hp => (rd_not rfl rfl)) ?_
     refine GO_rdT (v := .bool _) rfl (wn_none rfl) rfl (fun w => (rd_pickF rfl rfl rfl)) ?_
     refine GO_nil ?_
     refine GW_false rfl ?_
     refine GW_skip ?_
     have hp := ((hp.front 5 rfl).take 1)
     exact ⟨_, slots2 rfl rfl, hp⟩
    ·(try simp only [decide_eq_true_eq, decide_eq_false_iff_not, Bool.not_eq_true', Bool.not_eq_false', Bool.not_eq_eq_eq_not, Bool.not_true, Bool.not_false, Int.not_lt, Int.not_le] at hb3)
     refine GW_skip ?_
     have hp := ((hp.front 1 rfl).take 1)
     exact ⟨_, slots2 rfl rfl, hp⟩
   ·rintro f w ⟨fz, rfl, hp⟩
    refine GW_seq ?_
    refine GW_region ?_
    refine GL_rd (v := .slice _ _ _) (wn_none rfl) rfl (rd_move rfl rfl) ?_
    refine GL_call (wn_none rfl) rfl rfl (bu_Get _ l _ (hI.keep hp.mod)) rfl ?_
    rintro _ w ⟨Le, ce, He, rfl, hTe, hEe, hFe, hk⟩
    have hp := hp.comp hk
    have hp := hp.perm List.perm_append_comm
    refine GL_rd (v := .tuple _) (wn_none rfl) rfl (rd_move rfl rfl) ?_
    refine GL_rd (v := .agg ⟨_⟩) (wn_none rfl) rfl (rd_extract rfl rfl rfl) ?_
    refine GL_rd (v := .int _ _) (wn_none rfl) rfl (rd_extract rfl rfl rfl) ?_
    refine GL_alloc (wn_none rfl) rfl rfl tz82 rfl hp ?_
    intro g3 w hp
    refine GL_store (i := 0) (wn_none rfl) rfl rfl rfl rfl ts82 rfl hTe.len hTe.one hp rfl (by first | exact Nat.le_of_ble_eq_true rfl | simp [bys_length, *]) (splice_all _ _ hTe.len) ?_
    intro w hp
    refine GL_rd (v := .int _ _) (wn_none rfl) rfl (rd_assign rfl rfl) ?_
    refine GL_nil ?_
    refine GW_seq ?_
    refine GW_seq ?_
    rcases hTe with ⟨rfl, B, tv2, av2, rfl, ho1, ho2, hD, hBs, rfl⟩ | ⟨hc, rfl, hD, rfl⟩
    ·skip
     obtain ⟨hkB, hlB⟩ := getB_of hD
     rw [(bare_same B).k] at hkB
     rw [(bare_same B).bytes] at hlB
     refine GW_region ?_
     refine GL_rd (v := .int _ _) (wn_none rfl) rfl (rd_move rfl rfl) ?_
     refine GL_rd (wn_none rfl) rfl (rd_bin rfl rfl rfl (bo_boolE bo_neq rfl)) ?_
     refine GL_nil ?_
     refine GW_false rfl ?_
     refine GW_skip ?_
     refine GW_seq ?_
     refine GW_region ?_
     refine GL_rd (wn_none rfl) rfl (rd_loadC rfl rfl Try.underlying82 rfl ts82 (hp.get 0 rfl) rfl) ?_
     refine GL_call (wn_none rfl) rfl rfl (bu_Put B tv2 av2 _ ⟨Sl.row (hp.get 2 rfl), rowsZ_sl (hp.get 3 rfl), Sl.row (hp.get 4 rfl)⟩ hBs) rfl ?_
     rintro _ w ⟨pw, rfl, hk⟩
     have hp := hp.comp hk
     refine GL_rd (v := .tuple _) (wn_none rfl) rfl (rd_move rfl rfl) ?_
     refine GL_rd (v := pw) (wn_none rfl) rfl (rd_extract rfl rfl rfl) ?_
     refine GL_rd (v := .int _ _) (wn_none rfl) rfl (rd_extract rfl rfl rfl) ?_
     refine GL_rd (v := pw) (wn_none rfl) rfl (rd_assign rfl rfl) ?_
     refine GL_rd (v := .int _ _) (wn_none rfl) rfl (rd_assign rfl rfl) ?_
     refine GL_nil ?_
     refine GW_seq ?_
     refine GW_region ?_
     refine GL_rd (v := .int _ _) (wn_none rfl) rfl (rd_move rfl rfl) ?_
     refine GL_rd (wn_none rfl) rfl (rd_bin rfl rfl rfl (bo_eqT hkB)) ?_
     refine GL_rd (v := .bool _) (wn_none rfl) rfl (rd_move rfl rfl) ?_
     refine GL_rd (v := pw) (wn_on rfl rfl rfl rfl) rfl (rd_move rfl rfl) ?_
     refine GL_rd (v := .slice _ _ _) (wn_on rfl rfl rfl rfl) rfl (rd_move rfl rfl) ?_
     refine GL_call (wn_on rfl rfl rfl rfl) rfl rfl (ref_Same _ _ _ _ (buBytes B) l _ (Sl.row (hp.get 0 rfl)) (hI.keep hp.mod)) rfl ?_
     rintro _ w ⟨rfl, hk⟩
     have hp := hp.comp hk
     rw [decide_eq_true hlB]
     refine GL_rd (v := .bool _) (wn_none rfl) rfl (rd_pickT rfl rfl rfl) ?_
     refine GL_rd (v := .bool _) (wn_none rfl) rfl (rd_move rfl rfl) ?_
     refine GL_call (wn_on rfl rfl rfl rfl) rfl rfl (law_bworks _) rfl ?_
     rintro _ w ⟨rfl, hk⟩
     have hp := hp.comp hk
     refine GL_rd (v := .bool _) (wn_none rfl) rfl (rd_pickT rfl rfl rfl) ?_
     refine GL_rd (v := .bool _) (wn_none rfl) rfl (rd_assign rfl rfl) ?_
     refine GL_nil ?_
     refine GW_ret ?_
     exact ⟨_, res1 Try.results7 (rv_tmp (v := .bool _) rfl rfl), rfl, hp.mods⟩
    ·skip
     refine GW_region ?_
     refine GL_rd (v := .int _ _) (wn_none rfl) rfl (rd_move rfl rfl) ?_
     refine GL_rd (wn_none rfl) rfl (rd_bin rfl rfl rfl (bo_boolE bo_neq (by rw [decide_eq_false (by omega)]; try rfl))) ?_
     refine GL_nil ?_
     refine GW_true rfl ?_
     refine GW_seq ?_
     refine GW_region ?_
     refine GL_rd (v := .int _ _) (wn_none rfl) rfl (rd_move rfl rfl) ?_
     refine GL_rd (wn_none rfl) rfl (rd_bin rfl rfl rfl bo_eql) ?_
     refine GL_rd (v := .bool _) (wn_none rfl) rfl (rd_move rfl rfl) ?_
     refine GL_split (t := 53) (b := _) rfl ?_ ?_
     ·intro hb4; (try simp only [decide_eq_true_eq, decide_eq_false_iff_not, Bool.not_eq_true', Bool.not_eq_false', Bool.not_eq_eq_eq_not, Bool.not_true, Bool.not_false, Int.not_lt, Int.not_le] at hb4)
      refine GL_pass (nw_off rfl rfl rfl rfl rfl) rfl ?_
      refine GL_pass (nw_off rfl rfl rfl rfl rfl) rfl ?_
      refine GL_rd (v := .bool _) (wn_none rfl) rfl (rd_pickT rfl rfl rfl) ?_
      refine GL_rd (v := .bool _) (wn_none rfl) rfl (rd_move rfl rfl) ?_
      refine GL_pass (nw_off rfl rfl rfl rfl rfl) rfl ?_
      refine GL_pass (nw_off rfl rfl rfl rfl rfl) rfl ?_
      refine GL_pass (nw_off rfl rfl rfl rfl rfl) rfl ?_
      refine GL_pass (nw_undef rfl rfl rfl rfl) rfl ?_
      refine GL_pass (nw_undef rfl rfl rfl rfl) rfl ?_
      refine GL_pass (nw_undef rfl rfl rfl rfl) rfl ?_
      refine GL_pass (nw_off rfl rfl rfl rfl rfl) rfl ?_
      refine GL_rd (v := .bool _) (wn_none rfl) rfl (rd_pickT rfl rfl rfl) ?_
      refine GL_rd (v := .bool _) (wn_none rfl) rfl (rd_move rfl rfl) ?_
      refine GL_rd (wn_on rfl rfl rfl rfl) rfl (rd_loadC rfl rfl Try.underlying82 rfl ts82 (hp.get 0 rfl) rfl) ?_
      refine GL_rd (wn_on rfl rfl rfl rfl) rfl (rd_buildS (L := buZ) rfl tz82 pl82 (by kernel_rfl)) ?_
      refine GL_call (wn_on rfl rfl rfl rfl) rfl rfl (bu_Same bu0 bu0 (.slice none 0 0) (.slice none 0 0) (.slice none 0 0) (.slice none 0 0) _ (bu0_at _) (bu0_at _)) rfl ?_
      rintro _ w ⟨rfl, hk⟩
      have hp := hp.comp hk
      rw [decide_eq_true (sameQ_iff.2 ⟨rfl, rfl, rfl, rfl, rfl⟩)]
      refine GL_rd (v := .bool _) (wn_none rfl) rfl (rd_pickT rfl rfl rfl) ?_
      refine GL_rd (v := .bool _) (wn_none rfl) rfl (rd_move rfl rfl) ?_
      refine GL_call (wn_on rfl rfl rfl rfl) rfl rfl (law_bworks _) rfl ?_
      rintro _ w ⟨rfl, hk⟩
      have hp := hp.comp hk
      refine GL_rd (v := .bool _) (wn_none rfl) rfl (rd_pickT rfl rfl rfl) ?_
      refine GL_rd (v := .bool _) (wn_none rfl) rfl (rd_assign rfl rfl) ?_
      refine GL_nil ?_
      refine GW_ret ?_
      exact ⟨_, res1 Try.results7 (rv_tmp (v := .bool _) rfl rfl), rfl, hp.mods⟩
     ·intro hb4; (try simp only [decide_eq_true_eq, decide_eq_false_iff_not, Bool.not_eq_true', Bool.not_eq_false', Bool.not_eq_eq_eq_not, Bool.not_true, Bool.not_false, Int.not_lt, Int.not_le] at hb4)
      have h3 := hb4
      refine GL_rd (v := .int _ _) (wn_on rfl rfl rfl rfl) rfl (rd_move rfl rfl) ?_
      refine GL_rd (wn_on rfl rfl rfl rfl) rfl (rd_bin rfl rfl rfl bo_eql) ?_
      refine GL_rd (v := .bool _) (wn_none rfl) rfl (rd_pickF rfl rfl rfl) ?_
      refine GL_rd (v := .bool _) (wn_none rfl) rfl (rd_move rfl rfl) ?_
      refine GL_split (t := 57) (b := _) rfl ?_ ?_
      ·intro hb5; (try simp only [decide_eq_true_eq, decide_eq_false_iff_not, Bool.not_eq_true', Bool.not_eq_false', Bool.not_eq_eq_eq_not, Bool.not_true, Bool.not_false, Int.not_lt, Int.not_le] at hb5)
       refine GL_pass (nw_off rfl rfl rfl rfl rfl) rfl ?_
       refine GL_pass (nw_off rfl rfl rfl rfl rfl) rfl ?_
       refine GL_pass (nw_off rfl rfl rfl rfl rfl) rfl ?_
       refine GL_pass (nw_undef rfl rfl rfl rfl) rfl ?_
       refine GL_pass (nw_undef rfl rfl rfl rfl) rfl ?_
       refine GL_pass (nw_undef rfl rfl rfl rfl) rfl ?_
       refine GL_pass (nw_off rfl rfl rfl rfl rfl) rfl ?_
       refine GL_rd (v := .bool _) (wn_none rfl) rfl (rd_pickT rfl rfl rfl) ?_
       refine GL_rd (v := .bool _) (wn_none rfl) rfl (rd_move rfl rfl) ?_
       refine GL_rd (wn_on rfl rfl rfl rfl) rfl (rd_loadC rfl rfl Try.underlying82 rfl ts82 (hp.get 0 rfl) rfl) ?_
       refine GL_rd (wn_on rfl rfl rfl rfl) rfl (rd_buildS (L := buZ) rfl tz82 pl82 (by kernel_rfl)) ?_
       refine GL_call (wn_on rfl rfl rfl rfl) rfl rfl (bu_Same bu0 bu0 (.slice none 0 0) (.slice none 0 0) (.slice none 0 0) (.slice none 0 0) _ (bu0_at _) (bu0_at _)) rfl ?_
       rintro _ w ⟨rfl, hk⟩
       have hp := hp.comp hk
       rw [decide_eq_true (sameQ_iff.2 ⟨rfl, rfl, rfl, rfl, rfl⟩)]
       refine GL_rd (v := .bool _) (wn_none rfl) rfl (rd_pickT rfl rfl rfl) ?_
       refine GL_rd (v := .bool _) (wn_none rfl) rfl (rd_move rfl rfl) ?_
       refine GL_call (wn_on rfl rfl rfl rfl) rfl rfl (law_bworks _) rfl ?_
       rintro _ w ⟨rfl, hk⟩
       have hp := hp.comp hk
       refine GL_rd (v := .bool _) (wn_none rfl) rfl (rd_pickT rfl rfl rfl) ?_
       refine GL_rd (v := .bool _) (wn_none rfl) rfl (rd_assign rfl rfl) ?_
       refine GL_nil ?_
       refine GW_ret ?_
       exact ⟨_, res1 Try.results7 (rv_tmp (v := .bool _) rfl rfl), rfl, hp.mods⟩
      ·intro hb5; (try simp only [decide_eq_true_eq, decide_eq_false_iff_not, Bool.not_eq_true', Bool.not_eq_false', Bool.not_eq_eq_eq_not, Bool.not_true, Bool.not_false, Int.not_lt, Int.not_le] at hb5)
       have h5 := hb5
       refine GL_rd (v := .int _ _) (wn_on rfl rfl rfl rfl) rfl (rd_move rfl rfl) ?_
       refine GL_rd (wn_on rfl rfl rfl rfl) rfl (rd_bin rfl rfl rfl bo_eql) ?_
       refine GL_rd (v := .bool _) (wn_on rfl rfl rfl rfl) rfl (rd_move rfl rfl) ?_
       refine GL_split (t := 60) (b := _) rfl ?_ ?_
       ·intro hb6; (try simp only [decide_eq_true_eq, decide_eq_false_iff_not, Bool.not_eq_true', Bool.not_eq_false', Bool.not_eq_eq_eq_not, Bool.not_true, Bool.not_false, Int.not_lt, Int.not_le] at hb6)
        have h15 := hb6
        refine GL_rd (v := .slice _ _ _) (wn_on rfl rfl rfl rfl) rfl (rd_move rfl rfl) ?_
        refine GL_rd (wn_on rfl rfl rfl rfl) rfl (rd_len rfl rfl Try.underlying33) ?_
        refine GL_rd (wn_on rfl rfl rfl rfl) rfl (rd_bin rfl rfl rfl (bo_boolE bo_gtr (decide_eq_true (by have := hFe h15; omega)))) ?_
        refine GL_rd (v := .bool _) (wn_on rfl rfl rfl rfl) rfl (rd_pickT rfl rfl rfl) ?_
        refine GL_rd (v := .bool _) (wn_none rfl) rfl (rd_pickF rfl rfl rfl) ?_
        refine GL_rd (v := .bool _) (wn_none rfl) rfl (rd_move rfl rfl) ?_
        refine GL_rd (wn_on rfl rfl rfl rfl) rfl (rd_loadC rfl rfl Try.underlying82 rfl ts82 (hp.get 0 rfl) rfl) ?_
        refine GL_rd (wn_on rfl rfl rfl rfl) rfl (rd_buildS (L := buZ) rfl tz82 pl82 (by kernel_rfl)) ?_
        refine GL_call (wn_on rfl rfl rfl rfl) rfl rfl (bu_Same bu0 bu0 (.slice none 0 0) (.slice none 0 0) (.slice none 0 0) (.slice none 0 0) _ (bu0_at _) (bu0_at _)) rfl ?_
        rintro _ w ⟨rfl, hk⟩
        have hp := hp.comp hk
        rw [decide_eq_true (sameQ_iff.2 ⟨rfl, rfl, rfl, rfl, rfl⟩)]
        refine GL_rd (v := .bool _) (wn_none rfl) rfl (rd_pickT rfl rfl rfl) ?_
        refine GL_rd (v := .bool _) (wn_none rfl) rfl (rd_move rfl rfl) ?_
        refine GL_call (wn_on rfl rfl rfl rfl) rfl rfl (law_bworks _) rfl ?_
        rintro _ w ⟨rfl, hk⟩
        have hp := hp.comp hk
        refine GL_rd (v := .bool _) (wn_none rfl) rfl (rd_pickT rfl rfl rfl) ?_
        refine GL_rd (v := .bool _) (wn_none rfl) rfl (rd_assign rfl rfl) ?_
        refine GL_nil ?_
        refine GW_ret ?_
        exact ⟨_, res1 Try.results7 (rv_tmp (v := .bool _) rfl rfl), rfl, hp.mods⟩
       ·intro hb6; (try simp only [decide_eq_true_eq, decide_eq_false_iff_not, Bool.not_eq_true', Bool.not_eq_false', Bool.not_eq_eq_eq_not, Bool.not_true, Bool.not_false, Int.not_lt, Int.not_le] at hb6)
        exact absurd hc (by have := hb6; omega)
end Go.Proofs.Ytpagpmioopaciaa
