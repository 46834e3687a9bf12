/- Walks of functions of the program. -/
import Derived.Test.YtblpmjbddpadcaaFMask
import Derived.Test.YtblpmjbddpadcaaMaskW
set_option linter.unusedVariables false
set_option linter.unusedSimpArgs false
namespace Go.Proofs.Ytblpmjbddpadcaa
open Go.Mo Go.RowKit
theorem law_mlight (sv tv : Value) (m k : Nat) (L1 L2 : List Value) (w0 : World) (hI : Sl w0 sv 256 m L1) (hJ : Sl w0 tv 256 k L2) : Does Try.prog 15 #[sv, tv] w0 fun v w' => v = .bool (decide (m ≤ 60 ∧ k ≤ 60)) ∧ Hp w0 [] w' [] := by
 obtain ⟨A, c, rfl⟩ := sl_shape hI
 obtain ⟨B, d, rfl⟩ := sl_shape hJ
 refine does_of (l := [.slice A m c, .slice B k d]) Try.func15 (by kernel_rfl) rfl Try.ntmps15 rfl rfl ?_
 have hp := Hp.refl w0 []
 refine GW_seq ?_
 refine GW_region ?_
 refine GL_rd (v := .bool _) (wn_none rfl) rfl (rd_assign rfl rfl) ?_
 refine GL_nil ?_
 refine GW_seq ?_
 refine GW_region ?_
 refine GL_rd (v := .slice _ _ _) (wn_none rfl) rfl (rd_move rfl rfl) ?_
 refine GL_rd (wn_none rfl) rfl (rd_len rfl rfl Try.underlying24) ?_
 refine GL_rd (wn_none rfl) rfl (rd_bin rfl rfl rfl bo_leq) ?_
 refine GL_rd (v := .bool _) (wn_none rfl) rfl (rd_move rfl rfl) ?_
 refine GL_split (t := 8) (b := _) rfl ?_ ?_
 ·intro hb; (try simp only [decide_eq_true_eq, decide_eq_false_iff_not, Bool.not_eq_true', Bool.not_eq_false', Bool.not_eq_eq_eq_not, Bool.not_true, Bool.not_false, Int.not_lt, Int.not_le] at hb)
  have h1 := hb
  refine GL_rd (v := .slice _ _ _) (wn_on rfl rfl rfl rfl) rfl (rd_move rfl rfl) ?_
  refine GL_rd (wn_on rfl rfl rfl rfl) rfl (rd_len rfl rfl Try.underlying24) ?_
  refine GL_rd (wn_on rfl rfl rfl rfl) rfl (rd_bin rfl rfl rfl bo_leq) ?_
  refine GL_rd (v := .bool _) (wn_none rfl) rfl (rd_pickT rfl rfl rfl) ?_
  refine GL_rd (v := .bool _) (wn_none rfl) rfl (rd_assign rfl rfl) ?_
  refine GL_nil ?_
  refine GW_ret ?_
  have e : decide (m ≤ 60 ∧ k ≤ 60) = decide ((k : Int) ≤ 60) := by rw [decide_eq_decide]; omega
  exact ⟨_, res1 Try.results15 (rv_tmp (v := .bool _) rfl rfl), by rw [e], hp⟩
 ·intro hb; (try simp only [decide_eq_true_eq, decide_eq_false_iff_not, Bool.not_eq_true', Bool.not_eq_false', Bool.not_eq_eq_eq_not, Bool.not_true, Bool.not_false, Int.not_lt, Int.not_le] at hb)
  have h1 := hb
  refine GL_pass (nw_off rfl rfl rfl rfl rfl) rfl ?_
  refine GL_pass (nw_off rfl rfl rfl rfl rfl) rfl ?_
  refine GL_pass (nw_off rfl rfl rfl rfl rfl) rfl ?_
  refine GL_rd (v := .bool _) (wn_none rfl) rfl (rd_pickF rfl rfl rfl) ?_
  refine GL_rd (v := .bool _) (wn_none rfl) rfl (rd_assign rfl rfl) ?_
  refine GL_nil ?_
  refine GW_ret ?_
  have e : decide (m ≤ 60 ∧ k ≤ 60) = false := by rw [decide_eq_false_iff_not]; omega
  exact ⟨_, res1 Try.results15 (rv_tmp (v := .bool _) rfl rfl), by rw [e], hp⟩

theorem law_mworks (w0 : World) : Does Try.prog 16 #[] w0 fun v w' => v = .bool true ∧ Hp w0 [] w' [] := by
 refine does_of (l := []) Try.func16 (by kernel_rfl) rfl Try.ntmps16 rfl rfl ?_
 have hp := Hp.refl w0 []
 refine GW_seq ?_
 refine GW_region ?_
 refine GL_rd (v := .bool _) (wn_none rfl) rfl (rd_assign rfl rfl) ?_
 refine GL_nil ?_
 refine GW_seq ?_
 refine GW_region ?_
 refine GL_rd (wn_none rfl) rfl (rd_buildS (L := (plC pl0)) rfl tz23 pl23 (by kernel_rfl)) ?_
 refine GL_call (wn_none rfl) rfl rfl (plan_Of pl0 _) rfl ?_
 rintro _ w ⟨rfl, hk⟩
 have hp := hp.comp hk
 refine GL_rd (v := .tuple _) (wn_none rfl) rfl (rd_move rfl rfl) ?_
 refine GL_rd (v := .agg ⟨_⟩) (wn_none rfl) rfl (rd_extract rfl rfl rfl) ?_
 refine GL_rd (v := .int _ _) (wn_none rfl) rfl (rd_extract rfl rfl rfl) ?_
 refine GL_alloc (wn_none rfl) rfl rfl tz28 rfl hp ?_
 intro g w hp
 refine GL_store (i := 0) (wn_none rfl) rfl rfl rfl rfl ts28 rfl (layV_len _) (layV_one _) hp rfl (Nat.le_of_ble_eq_true rfl) (splice_all _ _ (layV_len _)) ?_
 intro w hp
 refine GL_rd (v := .int _ _) (wn_none rfl) rfl (rd_assign rfl rfl) ?_
 refine GL_nil ?_
 refine GW_seq ?_
 refine GW_seq ?_
 refine GW_region ?_
 refine GL_rd (v := .int _ _) (wn_none rfl) rfl (rd_move rfl rfl) ?_
 refine GL_rd (wn_none rfl) rfl (rd_bin rfl rfl rfl bo_neq) ?_
 refine GL_nil ?_
 refine GW_cond rfl (fun hb => ?_) (fun hb => ?_)
 ·(try simp only [decide_eq_true_eq, decide_eq_false_iff_not, Bool.not_eq_true', Bool.not_eq_false', Bool.not_eq_eq_eq_not, Bool.not_true, Bool.not_false, Int.not_lt, Int.not_le] at hb)
  exact absurd pl0_ok hb
 ·(try simp only [decide_eq_true_eq, decide_eq_false_iff_not, Bool.not_eq_true', Bool.not_eq_false', Bool.not_eq_eq_eq_not, Bool.not_true, Bool.not_false, Int.not_lt, Int.not_le] at hb)
  rw [layV_yes pl0_ok] at hp
  refine GW_skip ?_
  refine GW_seq ?_
  refine GW_region ?_
  refine GL_rd (wn_none rfl) rfl (rd_field rfl rfl fa28_8 _ rfl) ?_
  refine GL_rd (wn_none rfl) rfl (rd_load rfl rfl Try.underlying3 rfl ((cell_of_cells (hp.get 0 rfl) _).trans rfl)) ?_
  refine GL_makeN (e := seC) (a := secZ) (m := 23) (wn_none rfl) rfl rfl rfl Try.underlying24 ti44 seC_len (by decide) secZ_cells (by decide) (by omega) (by omega) hp ?_
  intro g2 w hp
  refine GL_rd (v := .slice _ _ _) (wn_none rfl) rfl (rd_assign rfl rfl) ?_
  refine GL_nil ?_
  refine GW_seq ?_
  refine GW_region ?_
  refine GL_rd (wn_none rfl) rfl (rd_field rfl rfl fa28_8 _ rfl) ?_
  refine GL_rd (wn_none rfl) rfl (rd_load rfl rfl Try.underlying3 rfl ((cell_of_cells (hp.get 1 rfl) _).trans rfl)) ?_
  refine GL_makeN (e := seC) (a := secZ) (m := 23) (wn_none rfl) rfl rfl rfl Try.underlying24 ti44 seC_len (by decide) secZ_cells (by decide) (by omega) (by omega) hp ?_
  intro g3 w hp
  refine GL_rd (v := .slice _ _ _) (wn_none rfl) rfl (rd_assign rfl rfl) ?_
  refine GL_nil ?_
  refine GW_seq ?_
  refine GW_seq ?_
  refine GW_region ?_
  refine GL_rd (wn_none rfl) rfl (rd_field rfl rfl fa28_8 _ rfl) ?_
  refine GL_rd (wn_none rfl) rfl (rd_load rfl rfl Try.underlying3 rfl ((cell_of_cells (hp.get 2 rfl) _).trans rfl)) ?_
  refine GL_rd (wn_none rfl) rfl (rd_bin rfl rfl rfl bo_lss) ?_
  refine GL_nil ?_
  refine GW_cond rfl (fun hb2 => ?_) (fun hb2 => ?_)
  ·(try simp only [decide_eq_true_eq, decide_eq_false_iff_not, Bool.not_eq_true', Bool.not_eq_false', Bool.not_eq_eq_eq_not, Bool.not_true, Bool.not_false, Int.not_lt, Int.not_le] at hb2)
   exact absurd hb2 (by decide)
  ·(try simp only [decide_eq_true_eq, decide_eq_false_iff_not, Bool.not_eq_true', Bool.not_eq_false', Bool.not_eq_eq_eq_not, Bool.not_true, Bool.not_false, Int.not_lt, Int.not_le] at hb2)
   refine GW_skip ?_
   refine GW_seq ?_
   refine GW_region ?_
   refine GL_rd (v := .slice _ _ _) (wn_none rfl) rfl (rd_move rfl rfl) ?_
   refine GL_rd (wn_none rfl) rfl (rd_field rfl rfl fa28_4 _ rfl) ?_
   refine GL_rd (wn_none rfl) rfl (rd_load rfl rfl Try.underlying3 rfl ((cell_of_cells (hp.get 2 rfl) _).trans rfl)) ?_
   refine GL_rd (wn_none rfl) rfl (rd_indexS (j := 8) rfl rfl rfl Try.underlying24 ts44 (by decide) (by decide) _ rfl) ?_
   refine GL_rd (wn_none rfl) rfl (rd_indexA (j := 60) rfl rfl rfl Try.underlying44 ts5 rfl (by decide) _ rfl) ?_
   refine GL_storeR (i := 0) (wn_none rfl) rfl rfl rfl rfl ts5 rfl rfl (one1 rfl) hp rfl rfl (by rw [flat_length seC_len]; decide) (se_set (l := imA) (i := 8) (j := 60) 7 (by decide) (by decide)) ?_
   intro w hp
   refine GL_nil ?_
   refine GW_seq ?_
   refine GW_region ?_
   refine GL_rd (wn_none rfl) rfl (rd_loadC rfl rfl Try.underlying28 rfl ts28 (hp.get 2 rfl) (by first | rfl | simp [bys_length, *])) ?_
   refine GL_rd (v := .slice _ _ _) (wn_none rfl) rfl (rd_move rfl rfl) ?_
   refine GL_rd (v := .slice _ _ _) (wn_none rfl) rfl (rd_move rfl rfl) ?_
   refine GL_call (wn_none rfl) rfl rfl (mask_Unlike pl0 _ _ 23 23 imA imB1 _ (Sl.row (hp.get 1 rfl)) (by decide) (Sl.row (hp.get 0 rfl)) (by decide)) rfl ?_
   intro vc w hk
   have hp := hp.comp hk
   rw [w23_c] at hp
   obtain ⟨Avc, cvc, rfl⟩ := row_shape (hp.get 0 rfl)
   refine GL_rd (v := .slice _ _ _) (wn_none rfl) rfl (rd_assign rfl rfl) ?_
   refine GL_nil ?_
   refine GW_seq ?_
   refine GW_region ?_
   refine GL_rd (v := .slice _ _ _) (wn_none rfl) rfl (rd_move rfl rfl) ?_
   refine GL_rd (wn_none rfl) rfl (rd_field rfl rfl fa28_4 _ rfl) ?_
   refine GL_rd (wn_none rfl) rfl (rd_load rfl rfl Try.underlying3 rfl ((cell_of_cells (hp.get 3 rfl) _).trans rfl)) ?_
   refine GL_rd (wn_none rfl) rfl (rd_indexS (j := 8) rfl rfl rfl Try.underlying24 ts44 (by decide) (by decide) _ rfl) ?_
   refine GL_rd (wn_none rfl) rfl (rd_indexA (j := 5) rfl rfl rfl Try.underlying44 ts5 rfl (by decide) _ rfl) ?_
   refine GL_storeR (i := 1) (wn_none rfl) rfl rfl rfl rfl ts5 rfl rfl (one1 rfl) hp rfl rfl (by rw [flat_length seC_len]; decide) (se_set (l := imB1) (i := 8) (j := 5) 7 (by decide) (by decide)) ?_
   intro w hp
   refine GL_nil ?_
   refine GW_seq ?_
   refine GW_region ?_
   refine GL_rd (v := .slice _ _ _) (wn_none rfl) rfl (rd_move rfl rfl) ?_
   refine GL_rd (wn_none rfl) rfl (rd_indexS (j := 1) rfl rfl rfl Try.underlying24 ts44 rfl (by decide) _ rfl) ?_
   refine GL_rd (wn_none rfl) rfl (rd_indexA (j := 59) rfl rfl rfl Try.underlying44 ts5 rfl (by decide) _ rfl) ?_
   refine GL_storeR (i := 1) (wn_none rfl) rfl rfl rfl rfl ts5 rfl rfl (one1 rfl) hp rfl rfl (by rw [flat_length seC_len]; decide) (se_set (l := imB2) (i := 1) (j := 59) 3 (by decide) (by decide)) ?_
   intro w hp
   refine GL_nil ?_
   refine GW_seq ?_
   refine GW_region ?_
   refine GL_rd (wn_none rfl) rfl (rd_loadC rfl rfl Try.underlying28 rfl ts28 (hp.get 3 rfl) (by first | rfl | simp [bys_length, *])) ?_
   refine GL_rd (v := .slice _ _ _) (wn_none rfl) rfl (rd_move rfl rfl) ?_
   refine GL_rd (v := .slice _ _ _) (wn_none rfl) rfl (rd_move rfl rfl) ?_
   refine GL_call (wn_none rfl) rfl rfl (mask_Unlike pl0 _ _ 23 23 imA imB3 _ (Sl.row (hp.get 2 rfl)) (by decide) (Sl.row (hp.get 1 rfl)) (by decide)) rfl ?_
   intro vd w hk
   have hp := hp.comp hk
   rw [w23_d] at hp
   obtain ⟨Avd, cvd, rfl⟩ := row_shape (hp.get 0 rfl)
   refine GL_rd (v := .slice _ _ _) (wn_none rfl) rfl (rd_assign rfl rfl) ?_
   refine GL_nil ?_
   refine GW_seq ?_
   refine GW_region ?_
   refine GL_call (wn_none rfl) rfl rfl (mask_Ranges _) rfl ?_
   intro vr w hk
   have hp := hp.comp hk
   obtain ⟨Ar, cr, rfl⟩ := row_shape (hp.get 0 rfl)
   refine GL_rd (v := .slice _ _ _) (wn_none rfl) rfl (rd_assign rfl rfl) ?_
   refine GL_nil ?_
   refine GW_seq ?_
   refine GW_region ?_
   refine GL_rd (wn_none rfl) rfl (rd_loadC rfl rfl Try.underlying28 rfl ts28 (hp.get 5 rfl) (by first | rfl | simp [bys_length, *])) ?_
   refine GL_rd (v := .slice _ _ _) (wn_none rfl) rfl (rd_move rfl rfl) ?_
   refine GL_call (wn_none rfl) rfl rfl (mask_Count pl0 _ 23 imB3 _ (Sl.row (hp.get 3 rfl)) (by decide)) rfl ?_
   rintro _ w ⟨gq, M, rfl, hM, hk⟩
   have hp := hp.comp hk
   obtain ⟨gd, bd, rfl⟩ := (Sl.row (hp.get 2 rfl)).addr (by decide)
   obtain ⟨ge, be, rfl⟩ := (Sl.row (hp.get 1 rfl)).addr (by decide)
   refine GL_rd (v := _) (wn_none rfl) rfl (rd_assign rfl rfl) ?_
   refine GL_nil ?_
   refine GW_seq ?_
   refine GW_drawnK 68 (.one 0 true (.one 1 true (.one 2 true (.one 3 true (.one 4 true (.one 5 true (.one 6 true (.one 7 true (.one 8 true (.one 9 true (.one 10 true (.one 11 true (.one 12 true (.one 13 true (.one 14 true (.one 15 true (.one 16 true (.one 17 true (.one 18 true (.one 19 true (.one 20 true (.one 21 true (.one 22 true (.one 23 true (.one 24 true (.one 25 true (.one 26 true (.one 27 true (.one 28 true (.one 29 true (.one 30 true (.one 31 true (.one 32 true (.one 33 true (.one 34 true (.one 35 true (.one 36 true (.one 37 false (.one 38 true (.one 39 true (.one 40 true (.one 41 true (.one 42 false (.one 43 false (.one 44 true (.one 45 true (.one 46 true (.one 47 false (.one 48 false (.one 49 true (.one 50 true (.one 51 true (.one 52 true (.one 53 true (.one 54 true (.one 55 true (.one 56 true (.one 57 true (.one 58 true (.one 59 true (.one 60 true (.one 61 true (.one 62 true (.one 63 false (.one 64 true (.one 65 true (.one 66 true (.one 67 true .nil)))))))))))))))))))))))))))))))))))))))))))))))))))))))))))))))))))) mixed (by kernel_rfl) hp (fun _ h => h) fun w hp => ?_
   have hpS := hp
   refine GO_rdT (v := .slice _ _ _) rfl (wn_none rfl) rfl (fun w => (rd_move rfl rfl)) ?_
   refine GO_rd rfl rfl (wn_none rfl) rfl hpS (fun w hp => (rd_len rfl rfl Try.underlying32)) ?_
   refine GO_rd rfl rfl (wn_none rfl) rfl hpS (fun w hp => (rd_bin rfl rfl rfl (bo_boolE (q := true) bo_eql (by decide)))) ?_
   refine GO_rdT (v := .bool _) rfl (wn_none rfl) rfl (fun w => (rd_move rfl rfl)) ?_
   refine GO_rdT (v := .slice _ _ _) rfl (wn_on rfl rfl rfl rfl) rfl (fun w => (rd_move rfl rfl)) ?_
   refine GO_rd rfl rfl (wn_on rfl rfl rfl rfl) rfl hpS (fun w hp => (rd_len rfl rfl Try.underlying32)) ?_
   refine GO_rd rfl rfl (wn_on rfl rfl rfl rfl) rfl hpS (fun w hp => (rd_bin rfl rfl rfl (bo_boolE (q := true) bo_eql (by decide)))) ?_
   refine GO_rdT (v := .bool _) rfl (wn_none rfl) rfl (fun w => (rd_pickT rfl rfl rfl)) ?_
   refine GO_rdT (v := .bool _) rfl (wn_none rfl) rfl (fun w => (rd_move rfl rfl)) ?_
   refine GO_rdT (v := .slice _ _ _) rfl (wn_on rfl rfl rfl rfl) rfl (fun w => (rd_move rfl rfl)) ?_
   refine GO_rdT rfl (wn_on rfl rfl rfl rfl) rfl (fun w => (rd_indexS (j := 0) rfl rfl rfl Try.underlying32 ts3 rfl (by decide) _ rfl)) ?_
   refine GO_rd rfl rfl (wn_on rfl rfl rfl rfl) rfl hpS (fun w hp => (rd_load rfl rfl Try.underlying3 rfl (int_cell (i := 0) (Sl.row (hp.get 2 rfl)) (by decide)))) ?_
   refine GO_rd rfl rfl (wn_on rfl rfl rfl rfl) rfl hpS (fun w hp => (rd_bin rfl rfl rfl (bo_boolE (q := true) bo_eql (by decide)))) ?_
   refine GO_rdT (v := .bool _) rfl (wn_none rfl) rfl (fun w => (rd_pickT rfl rfl rfl)) ?_
   refine GO_rdT (v := .bool _) rfl (wn_none rfl) rfl (fun w => (rd_move rfl rfl)) ?_
   refine GO_rdT (v := .slice _ _ _) rfl (wn_on rfl rfl rfl rfl) rfl (fun w => (rd_move rfl rfl)) ?_
   refine GO_rdT rfl (wn_on rfl rfl rfl rfl) rfl (fun w => (rd_indexS (j := 1) rfl rfl rfl Try.underlying32 ts3 rfl (by decide) _ rfl)) ?_
   refine GO_rd rfl rfl (wn_on rfl rfl rfl rfl) rfl hpS (fun w hp => (rd_load rfl rfl Try.underlying3 rfl (int_cell (i := 1) (Sl.row (hp.get 2 rfl)) (by decide)))) ?_
   refine GO_rdT rfl (wn_on rfl rfl rfl rfl) rfl (fun w => (rd_field rfl rfl fa28_4 _ rfl)) ?_
   refine GO_rd rfl rfl (wn_on rfl rfl rfl rfl) rfl hpS (fun w hp => (rd_load rfl rfl Try.underlying3 rfl ((cell_of_cells (hp.get 6 rfl) _).trans rfl))) ?_
   refine GO_rd rfl rfl (wn_on rfl rfl rfl rfl) rfl hpS (fun w hp => (rd_bin rfl rfl rfl (bo_boolE (q := true) bo_eql (by decide)))) ?_
   refine GO_rdT (v := .bool _) rfl (wn_none rfl) rfl (fun w => (rd_pickT rfl rfl rfl)) ?_
   refine GO_rdT (v := .bool _) rfl (wn_none rfl) rfl (fun w => (rd_move rfl rfl)) ?_
   refine GO_rdT (v := .slice _ _ _) rfl (wn_on rfl rfl rfl rfl) rfl (fun w => (rd_move rfl rfl)) ?_
   refine GO_rd rfl rfl (wn_on rfl rfl rfl rfl) rfl hpS (fun w hp => (rd_len rfl rfl Try.underlying117)) ?_
   refine GO_rd rfl rfl (wn_on rfl rfl rfl rfl) rfl hpS (fun w hp => (rd_bin rfl rfl rfl (bo_boolE (q := true) bo_eql (by decide)))) ?_
   refine GO_rdT (v := .bool _) rfl (wn_none rfl) rfl (fun w => (rd_pickT rfl rfl rfl)) ?_
   refine GO_rdT (v := .bool _) rfl (wn_none rfl) rfl (fun w => (rd_move rfl rfl)) ?_
   refine GO_rdT (v := .slice _ _ _) rfl (wn_on rfl rfl rfl rfl) rfl (fun w => (rd_move rfl rfl)) ?_
   refine GO_rdT rfl (wn_on rfl rfl rfl rfl) rfl (fun w => (rd_indexS (j := 0) rfl rfl rfl Try.underlying117 ts120 rfl (by decide) _ rfl)) ?_
   refine GO_rd rfl rfl (wn_on rfl rfl rfl rfl) rfl hpS (fun w hp => (rd_loadN (L := _) rfl rfl Try.underlying120 rfl ts120 rfl (fun j u hj => (Sl.row (hp.get 1 rfl)).elem prC_len 0 j (prC_lt hj) (show [((59 : Int), (155 : Int)), (252, 256)][0]? = some ((59 : Int), (155 : Int)) from rfl) hj))) ?_
   refine GO_rd rfl rfl (wn_on rfl rfl rfl rfl) rfl hpS (fun w hp => (rd_buildS (L := [.int .i64 59, .int .i64 155]) rfl tz120 pl120 (by kernel_rfl))) ?_
   refine GO_rd rfl rfl (wn_on rfl rfl rfl rfl) rfl hpS (fun w hp => (rd_bin rfl rfl rfl (bo_boolE (q := true) (bo_ints (xs := [59, 155]) (ys := [59, 155]) ia120 rfl rfl).1 (by decide)))) ?_
   refine GO_rdT (v := .bool _) rfl (wn_none rfl) rfl (fun w => (rd_pickT rfl rfl rfl)) ?_
   refine GO_rdT (v := .bool _) rfl (wn_none rfl) rfl (fun w => (rd_move rfl rfl)) ?_
   refine GO_rdT (v := .slice _ _ _) rfl (wn_on rfl rfl rfl rfl) rfl (fun w => (rd_move rfl rfl)) ?_
   refine GO_rdT (v := .slice _ _ _) rfl (wn_on rfl rfl rfl rfl) rfl (fun w => (rd_move rfl rfl)) ?_
   refine GO_of_GL rfl ?_
   refine GL_call (wn_on rfl rfl rfl rfl) rfl rfl (mask_Differ _ _ 23 23 imA imB3 _ (Sl.row (hp.get 5 rfl)) (by decide) (Sl.row (hp.get 4 rfl)) (by decide)) rfl ?_
   rintro _ w ⟨rfl, hk⟩
   have hp := hp.comp hk
   have hpS2 := hp
   refine GL_nil ⟨fun _ => hpS2, ?_⟩
   refine GO_rd rfl rfl (wn_on rfl rfl rfl rfl) rfl hpS2 (fun w hp => (rd_bin rfl rfl rfl (bo_boolE (q := true) bo_eql (decide_eq_true w23_dif)))) ?_
   refine GO_rdT (v := .bool _) rfl (wn_none rfl) rfl (fun w => (rd_pickT rfl rfl rfl)) ?_
   refine GO_rdT (v := .bool _) rfl (wn_none rfl) rfl (fun w => (rd_move rfl rfl)) ?_
   refine GO_rdT (v := .slice _ _ _) rfl (wn_on rfl rfl rfl rfl) rfl (fun w => (rd_move rfl rfl)) ?_
   refine GO_of_GL rfl ?_
   refine GL_lit (L := (bys [7, 0, 0])) (wn_on rfl rfl rfl rfl) rfl rfl Try.underlying39 ts5 tz5 rfl (by kernel_rfl) rfl rfl hp ?_
   intro g4 w hp
   have hpS3 := (hp.sub (.cons _ (.cons_cons _ (.cons_cons _ (.cons_cons _ (.cons_cons _ (.cons_cons _ (.cons_cons _ (.cons_cons _ .slnil)))))))))
   refine GL_nil ⟨fun _ => hpS3, ?_⟩
   refine GO_of_GL rfl ?_
   refine GL_call (wn_on rfl rfl rfl rfl) rfl rfl (mask_Holds _ _ 23 3 imB3 [7, 0, 0] _ (Sl.row (hp.get 5 rfl)) (by decide) (Sl.row (hp.get 0 rfl)) (by decide)) rfl ?_
   rintro _ w ⟨rfl, hk⟩
   have hp := hp.comp hk
   have hpS4 := (hp.sub (.cons _ (.cons_cons _ (.cons_cons _ (.cons_cons _ (.cons_cons _ (.cons_cons _ (.cons_cons _ (.cons_cons _ .slnil)))))))))
   refine GL_nil ⟨fun _ => hpS4, ?_⟩
   refine GO_rdT (v := .bool _) rfl (wn_none rfl) rfl (fun w => (rd_pickT rfl rfl rfl)) ?_
   refine GO_rdT (v := .bool _) rfl (wn_none rfl) rfl (fun w => (rd_move rfl rfl)) ?_
   refine GO_split (t := 95) (b := _) rfl ?_ ?_
   ·intro hb3; (try simp only [decide_eq_true_eq, decide_eq_false_iff_not, Bool.not_eq_true', Bool.not_eq_false', Bool.not_eq_eq_eq_not, Bool.not_true, Bool.not_false, Int.not_lt, Int.not_le] at hb3)
    refine GO_rdT (v := .slice _ _ _) rfl (wn_on rfl rfl rfl rfl) rfl (fun w => (rd_move rfl rfl)) ?_
    refine GO_of_GL rfl ?_
    refine GL_lit (L := (bys [7])) (wn_on rfl rfl rfl rfl) rfl rfl Try.underlying39 ts5 tz5 rfl (by kernel_rfl) rfl rfl hp ?_
    intro g5 w hp
    have hpS5 := (hp.sub (.cons _ (.cons _ (.cons_cons _ (.cons_cons _ (.cons_cons _ (.cons_cons _ (.cons_cons _ (.cons_cons _ (.cons_cons _ .slnil))))))))))
    refine GL_nil ⟨fun _ => hpS5, ?_⟩
    refine GO_of_GL rfl ?_
    refine GL_call (wn_on rfl rfl rfl rfl) rfl rfl (mask_Holds _ _ 23 1 imA [7] _ (Sl.row (hp.get 7 rfl)) (by decide) (Sl.row (hp.get 0 rfl)) (by decide)) rfl ?_
    rintro _ w ⟨rfl, hk⟩
    have hp := hp.comp hk
    have hpS6 := (hp.sub (.cons _ (.cons _ (.cons_cons _ (.cons_cons _ (.cons_cons _ (.cons_cons _ (.cons_cons _ (.cons_cons _ (.cons_cons _ .slnil))))))))))
    refine GL_nil ⟨fun _ => hpS6, ?_⟩
    refine GO_rd rfl rfl (wn_on rfl rfl rfl rfl) rfl hpS6 (fun w hp => (rd_not rfl rfl)) ?_
    refine GO_rdT (v := .bool _) rfl (wn_none rfl) rfl (fun w => (rd_pickT rfl rfl rfl)) ?_
    refine GO_rdT (v := .bool _) rfl (wn_none rfl) rfl (fun w => (rd_move rfl rfl)) ?_
    refine GO_split (t := 101) (b := _) rfl ?_ ?_
    ·intro hb4; (try simp only [decide_eq_true_eq, decide_eq_false_iff_not, Bool.not_eq_true', Bool.not_eq_false', Bool.not_eq_eq_eq_not, Bool.not_true, Bool.not_false, Int.not_lt, Int.not_le] at hb4)
     refine GO_rdT (v := _) rfl (wn_on rfl rfl rfl rfl) rfl (fun w => (rd_move rfl rfl)) ?_
     refine GO_rd rfl rfl (wn_on rfl rfl rfl rfl) rfl hpS6 (fun w hp => (rd_cntG rfl rfl rfl Try.underlying42 Try.underlying9 tz3 (hp.get 0 rfl))) ?_
     refine GO_rd rfl rfl (wn_on rfl rfl rfl rfl) rfl hpS6 (fun w hp => (rd_bin rfl rfl rfl (bo_boolE (q := true) bo_eql (by rw [hM]; exact decide_eq_true w23_n1)))) ?_
     refine GO_rdT (v := .bool _) rfl (wn_none rfl) rfl (fun w => (rd_pickT rfl rfl rfl)) ?_
     refine GO_rdT (v := .bool _) rfl (wn_none rfl) rfl (fun w => (rd_move rfl rfl)) ?_
     refine GO_rdT (v := _) rfl (wn_on rfl rfl rfl rfl) rfl (fun w => (rd_move rfl rfl)) ?_
     refine GO_rd rfl rfl (wn_on rfl rfl rfl rfl) rfl hpS6 (fun w hp => (rd_cntG rfl rfl rfl Try.underlying42 Try.underlying9 tz3 (hp.get 0 rfl))) ?_
     refine GO_rd rfl rfl (wn_on rfl rfl rfl rfl) rfl hpS6 (fun w hp => (rd_bin rfl rfl rfl (bo_boolE (q := true) bo_eql (by rw [hM]; exact decide_eq_true w23_n2)))) ?_
     refine GO_rdT (v := .bool _) rfl (wn_none rfl) rfl (fun w => (rd_pickT rfl rfl rfl)) ?_
     refine GO_rdT (v := .bool _) rfl (wn_none rfl) rfl (fun w => (rd_move rfl rfl)) ?_
     refine GO_rd rfl rfl (wn_on rfl rfl rfl rfl) rfl hpS6 (fun w hp => (rd_loadC rfl rfl Try.underlying28 rfl ts28 (hp.get 6 rfl) (by first | rfl | simp [bys_length, *]))) ?_
     refine GO_of_GL rfl ?_
     refine GL_call (wn_on rfl rfl rfl rfl) rfl rfl (mask_Apply pl0 _ 0 [] _ (Sl.nil _ 256) (by decide)) rfl ?_
     intro vz w hk
     have hp := hp.comp hk
     obtain ⟨Az, cz, rfl⟩ := row_shape (hp.get 0 rfl)
     have hpS7 := (hp.sub (.cons _ (.cons _ (.cons _ (.cons_cons _ (.cons_cons _ (.cons_cons _ (.cons_cons _ (.cons_cons _ (.cons_cons _ (.cons_cons _ .slnil)))))))))))
     refine GL_nil ⟨fun _ => hpS7, ?_⟩
     refine GO_rd rfl rfl (wn_on rfl rfl rfl rfl) rfl hpS7 (fun w hp => (rd_len rfl rfl Try.underlying24)) ?_
     refine GO_rd rfl rfl (wn_on rfl rfl rfl rfl) rfl hpS7 (fun w hp => (rd_bin rfl rfl rfl (bo_boolE (q := true) bo_eql (by decide)))) ?_
     refine GO_rdT (v := .bool _) rfl (wn_none rfl) rfl (fun w => (rd_pickT rfl rfl rfl)) ?_
     refine GO_rdT (v := .bool _) rfl (wn_none rfl) rfl (fun w => (rd_assign rfl rfl)) ?_
     refine GO_nil ?_
     refine GW_ret ?_
     exact ⟨_, res1 Try.results16 (rv_tmp (v := .bool _) rfl rfl), rfl, hp.mods⟩
    ·intro hb4; (try simp only [decide_eq_true_eq, decide_eq_false_iff_not, Bool.not_eq_true', Bool.not_eq_false', Bool.not_eq_eq_eq_not, Bool.not_true, Bool.not_false, Int.not_lt, Int.not_le] at hb4)
     exact absurd w23_h2 (by revert hb4; cases holdsI imA [7] <;> simp)
   ·intro hb3; (try simp only [decide_eq_true_eq, decide_eq_false_iff_not, Bool.not_eq_true', Bool.not_eq_false', Bool.not_eq_eq_eq_not, Bool.not_true, Bool.not_false, Int.not_lt, Int.not_le] at hb3)
    exact absurd w23_h1 (by rw [hb3]; decide)

theorem law_MaskHides (p : Pl) (sv tv : Value) (m k : Nat) (l q : List Sec) (w0 : World) (hI : Sl w0 sv 256 m (l.flatMap seC)) (hJ : Sl w0 tv 256 k (q.flatMap seC)) : Does Try.prog 3 #[.agg ⟨plC p⟩, sv, tv] w0 fun v w' => v = .bool true ∧ Hp w0 [] w' [] := by
 refine does_of (l := [.agg ⟨plC p⟩, sv, tv]) Try.func3 (by kernel_rfl) rfl Try.ntmps3 rfl rfl ?_
 have hp := Hp.refl w0 []
 refine GW_seq ?_
 refine GW_region ?_
 refine GL_box (wn_none rfl) rfl rfl rfl rfl hp ?_
 intro g w hp
 refine GL_rd (v := .bool _) (wn_none rfl) rfl (rd_assign rfl rfl) ?_
 refine GL_nil ?_
 refine GW_seq ?_
 refine GW_seq ?_
 refine GW_region ?_
 refine GL_rd (v := sv) (wn_none rfl) rfl (rd_move rfl rfl) ?_
 refine GL_rd (v := tv) (wn_none rfl) rfl (rd_move rfl rfl) ?_
 refine GL_call (wn_none rfl) rfl rfl (law_mlight _ _ m k _ _ _ (hI.keep hp.mod) (hJ.keep hp.mod)) rfl ?_
 rintro _ w ⟨rfl, hk⟩
 have hp := hp.comp hk
 refine GL_rd (wn_none rfl) rfl (rd_not rfl rfl) ?_
 refine GL_nil ?_
 refine GW_cond rfl (fun hb => ?_) (fun hb => ?_)
 ·(try simp only [decide_eq_true_eq, decide_eq_false_iff_not, Bool.not_eq_true', Bool.not_eq_false', Bool.not_eq_eq_eq_not, Bool.not_true, Bool.not_false, Int.not_lt, Int.not_le] at hb)
  refine GW_seq ?_
  refine GW_region ?_
  refine GL_call (wn_none rfl) rfl rfl (law_mworks _) rfl ?_
  rintro _ w ⟨rfl, hk⟩
  have hp := hp.comp hk
  refine GL_rd (v := .bool _) (wn_none rfl) rfl (rd_assign rfl rfl) ?_
  refine GL_nil ?_
  refine GW_ret ?_
  exact ⟨_, res1 Try.results3 (rv_tmp (v := .bool _) rfl rfl), rfl, hp.mods⟩
 ·(try simp only [decide_eq_true_eq, decide_eq_false_iff_not, Bool.not_eq_true', Bool.not_eq_false', Bool.not_eq_eq_eq_not, Bool.not_true, Bool.not_false, Int.not_lt, Int.not_le] at hb)
  refine GW_skip ?_
  refine GW_seq ?_
  refine GW_region ?_
  refine GL_rd (wn_none rfl) rfl (rd_loadC rfl rfl Try.underlying23 rfl ts23 (hp.get 0 rfl) (by first | rfl | simp [bys_length, *])) ?_
  refine GL_call (wn_none rfl) rfl rfl (plan_Of p _) rfl ?_
  rintro _ w ⟨rfl, hk⟩
  have hp := hp.comp hk
  refine GL_rd (v := .tuple _) (wn_none rfl) rfl (rd_move rfl rfl) ?_
  refine GL_rd (v := .agg ⟨_⟩) (wn_none rfl) rfl (rd_extract rfl rfl rfl) ?_
  refine GL_rd (v := .int _ _) (wn_none rfl) rfl (rd_extract rfl rfl rfl) ?_
  refine GL_alloc (wn_none rfl) rfl rfl tz28 rfl hp ?_
  intro g2 w hp
  refine GL_store (i := 0) (wn_none rfl) rfl rfl rfl rfl ts28 rfl (layV_len _) (layV_one _) hp rfl (Nat.le_of_ble_eq_true rfl) (splice_all _ _ (layV_len _)) ?_
  intro w hp
  refine GL_rd (v := .int _ _) (wn_none rfl) rfl (rd_assign rfl rfl) ?_
  refine GL_nil ?_
  refine GW_seq ?_
  refine GW_seq ?_
  refine GW_region ?_
  refine GL_rd (v := .int _ _) (wn_none rfl) rfl (rd_move rfl rfl) ?_
  refine GL_rd (wn_none rfl) rfl (rd_bin rfl rfl rfl bo_neq) ?_
  refine GL_nil ?_
  refine GW_cond rfl (fun hb2 => ?_) (fun hb2 => ?_)
  ·(try simp only [decide_eq_true_eq, decide_eq_false_iff_not, Bool.not_eq_true', Bool.not_eq_false', Bool.not_eq_eq_eq_not, Bool.not_true, Bool.not_false, Int.not_lt, Int.not_le] at hb2)
   refine GW_seq ?_
   refine GW_region ?_
   refine GL_call (wn_none rfl) rfl rfl (law_mworks _) rfl ?_
   rintro _ w ⟨rfl, hk⟩
   have hp := hp.comp hk
   refine GL_rd (v := .bool _) (wn_none rfl) rfl (rd_assign rfl rfl) ?_
   refine GL_nil ?_
   refine GW_ret ?_
   exact ⟨_, res1 Try.results3 (rv_tmp (v := .bool _) rfl rfl), rfl, hp.mods⟩
  ·(try simp only [decide_eq_true_eq, decide_eq_false_iff_not, Bool.not_eq_true', Bool.not_eq_false', Bool.not_eq_eq_eq_not, Bool.not_true, Bool.not_false, Int.not_lt, Int.not_le] at hb2)
   have hc : planC p = 0 := hb2
   have hpl := planC_iff.1 hc
   rw [layV_yes hc] at hp
   refine GW_skip ?_
   refine GW_seq ?_
   refine GW_drawnK 10 (.one 0 true (.one 1 true (.one 2 true (.one 4 true (.one 5 true (.one 6 true (.one 3 false (.one 7 false (.one 8 true (.one 9 true .nil)))))))))) mixed (by kernel_rfl) hp (fun _ h => h) fun w hp => ?_
   have hpS := hp
   refine GO_rd rfl rfl (wn_none rfl) rfl hpS (fun w hp => (rd_loadC rfl rfl Try.underlying28 rfl ts28 (hp.get 0 rfl) (by first | rfl | simp [bys_length, *]))) ?_
   refine GO_rdT (v := sv) rfl (wn_none rfl) rfl (fun w => (rd_move rfl rfl)) ?_
   refine GO_rdT (v := tv) rfl (wn_none rfl) rfl (fun w => (rd_move rfl rfl)) ?_
   refine GO_rd rfl rfl (wn_none rfl) rfl hpS (fun w hp => (rd_loadC rfl rfl Try.underlying23 rfl ts23 (hp.get 1 rfl) (by first | rfl | simp [bys_length, *]))) ?_
   refine GO_rdT (v := sv) rfl (wn_none rfl) rfl (fun w => (rd_move rfl rfl)) ?_
   refine GO_rdT (v := tv) rfl (wn_none rfl) rfl (fun w => (rd_move rfl rfl)) ?_
   refine GO_of_GL rfl ?_
   refine GL_call (wn_none rfl) rfl rfl (mask_Unlike p sv tv m k l q _ (hI.keep hp.mod) (by omega) (hJ.keep hp.mod) (by omega)) rfl ?_
   intro vu w hk
   have hp := hp.comp hk
   obtain ⟨Au, cu, rfl⟩ := row_shape (hp.get 0 rfl)
   have hpS2 := (hp.sub (.cons _ (.cons_cons _ (.cons_cons _ .slnil))))
   refine GL_nil ⟨fun _ => hpS2, ?_⟩
   refine GO_of_GL rfl ?_
   refine GL_call (wn_none rfl) rfl rfl (ref_mUnlike p sv tv m k l q _ hpl (hI.keep hp.mod) (by omega) (hJ.keep hp.mod) (by omega)) rfl ?_
   intro vv w hk
   have hp := hp.comp hk
   obtain ⟨Av, cv, rfl⟩ := row_shape (hp.get 0 rfl)
   have hpS3 := (hp.sub (.cons _ (.cons _ (.cons_cons _ (.cons_cons _ .slnil)))))
   refine GL_nil ⟨fun _ => hpS3, ?_⟩
   refine GO_rdT (v := .slice _ _ _) rfl (wn_none rfl) rfl (fun w => (rd_assign rfl rfl)) ?_
   refine GO_rdT (v := .slice _ _ _) rfl (wn_none rfl) rfl (fun w => (rd_assign rfl rfl)) ?_
   refine GO_nil ?_
   refine GW_seq ?_
   refine GW_seq ?_
   refine GW_drawnK 24 (.one 0 true (.one 1 true (.one 2 true (.one 3 true (.one 4 true (.one 5 true (.one 6 true (.one 7 true (.one 9 true (.one 10 true (.one 8 false (.one 11 false (.one 12 false (.one 13 true (.one 14 true (.one 15 true (.one 16 true (.one 17 true (.one 19 true (.one 20 true (.one 18 false (.one 21 false (.one 22 true (.one 23 true .nil)))))))))))))))))))))))) mixed (by kernel_rfl) hp (fun _ h => (h.sub (.cons _ (.cons _ (.cons_cons _ (.cons_cons _ .slnil)))))) fun w hp => ?_
   have hpS4 := (hp.sub (.cons _ (.cons _ (.cons_cons _ (.cons_cons _ .slnil)))))
   refine GO_rdT (v := .slice _ _ _) rfl (wn_none rfl) rfl (fun w => (rd_move rfl rfl)) ?_
   refine GO_rd rfl rfl (wn_none rfl) rfl hpS4 (fun w hp => (rd_len rfl rfl Try.underlying32)) ?_
   refine GO_rdT (v := .slice _ _ _) rfl (wn_none rfl) rfl (fun w => (rd_move rfl rfl)) ?_
   refine GO_rd rfl rfl (wn_none rfl) rfl hpS4 (fun w hp => (rd_len rfl rfl Try.underlying32)) ?_
   refine GO_rd rfl rfl (wn_none rfl) rfl hpS4 (fun w hp => (rd_bin rfl rfl rfl bo_neq)) ?_
   refine GO_rdT (v := .bool _) rfl (wn_none rfl) rfl (fun w => (rd_move rfl rfl)) ?_
   refine GO_split (t := 38) (b := _) rfl ?_ ?_
   ·intro hb3; (try simp only [decide_eq_true_eq, decide_eq_false_iff_not, Bool.not_eq_true', Bool.not_eq_false', Bool.not_eq_eq_eq_not, Bool.not_true, Bool.not_false, Int.not_lt, Int.not_le] at hb3)
    exact absurd trivial hb3
   ·intro hb3; (try simp only [decide_eq_true_eq, decide_eq_false_iff_not, Bool.not_eq_true', Bool.not_eq_false', Bool.not_eq_eq_eq_not, Bool.not_true, Bool.not_false, Int.not_lt, Int.not_le] at hb3)
    refine GO_rd rfl rfl (wn_on rfl rfl rfl rfl) rfl hpS4 (fun w hp => (rd_loadC rfl rfl Try.underlying28 rfl ts28 (hp.get 0 rfl) (by first | rfl | simp [bys_length, *]))) ?_
    refine GO_rdT (v := sv) rfl (wn_on rfl rfl rfl rfl) rfl (fun w => (rd_move rfl rfl)) ?_
    refine GO_rd rfl rfl (wn_on rfl rfl rfl rfl) rfl hpS4 (fun w hp => (rd_loadC rfl rfl Try.underlying23 rfl ts23 (hp.get 1 rfl) (by first | rfl | simp [bys_length, *]))) ?_
    refine GO_rdT (v := sv) rfl (wn_on rfl rfl rfl rfl) rfl (fun w => (rd_move rfl rfl)) ?_
    refine GO_of_GL rfl ?_
    refine GL_call (wn_on rfl rfl rfl rfl) rfl rfl (mask_Apply p sv m l _ (hI.keep hp.mod) (by omega)) rfl ?_
    intro va w hk
    have hp := hp.comp hk
    have hpS5 := (hp.sub (.cons _ (.cons _ (.cons _ (.cons_cons _ (.cons_cons _ .slnil))))))
    refine GL_nil ⟨fun _ => hpS5, ?_⟩
    refine GO_of_GL rfl ?_
    refine GL_call (wn_on rfl rfl rfl rfl) rfl rfl (ref_mApply p sv m l _ hpl (hI.keep hp.mod) (by omega)) rfl ?_
    intro vb w hk
    have hp := hp.comp hk
    have hpS6 := (hp.sub (.cons _ (.cons _ (.cons _ (.cons _ (.cons_cons _ (.cons_cons _ .slnil)))))))
    refine GL_nil ⟨fun _ => hpS6, ?_⟩
    refine GO_of_GL rfl ?_
    refine GL_call (wn_on rfl rfl rfl rfl) rfl rfl (ref_SameImage _ _ m (imask p l) _ (Sl.row (hp.get 1 rfl)) (Sl.row (hp.get 0 rfl)) (by omega)) rfl ?_
    rintro _ w ⟨rfl, hk⟩
    have hp := hp.comp hk
    have hpS7 := (hp.sub (.cons _ (.cons _ (.cons _ (.cons _ (.cons_cons _ (.cons_cons _ .slnil)))))))
    refine GL_nil ⟨fun _ => hpS7, ?_⟩
    refine GO_rd rfl rfl (wn_on rfl rfl rfl rfl) rfl hpS7 (fun w hp => (rd_not rfl rfl)) ?_
    refine GO_rdT (v := .bool _) rfl (wn_none rfl) rfl (fun w => (rd_pickF rfl rfl rfl)) ?_
    refine GO_rdT (v := .bool _) rfl (wn_none rfl) rfl (fun w => (rd_move rfl rfl)) ?_
    refine GO_rdT (v := sv) rfl (wn_on rfl rfl rfl rfl) rfl (fun w => (rd_move rfl rfl)) ?_
    refine GO_rdT (v := tv) rfl (wn_on rfl rfl rfl rfl) rfl (fun w => (rd_move rfl rfl)) ?_
    refine GO_rdT (v := sv) rfl (wn_on rfl rfl rfl rfl) rfl (fun w => (rd_move rfl rfl)) ?_
    refine GO_rdT (v := tv) rfl (wn_on rfl rfl rfl rfl) rfl (fun w => (rd_move rfl rfl)) ?_
    refine GO_of_GL rfl ?_
    refine GL_call (wn_on rfl rfl rfl rfl) rfl rfl (mask_Differ sv tv m k l q _ (hI.keep hp.mod) (by omega) (hJ.keep hp.mod) (by omega)) rfl ?_
    rintro _ w ⟨rfl, hk⟩
    have hp := hp.comp hk
    have hpS8 := (hp.sub (.cons _ (.cons _ (.cons _ (.cons _ (.cons_cons _ (.cons_cons _ .slnil)))))))
    refine GL_nil ⟨fun _ => hpS8, ?_⟩
    refine GO_of_GL rfl ?_
    refine GL_call (wn_on rfl rfl rfl rfl) rfl rfl (ref_Differ sv tv m k l q _ (hI.keep hp.mod) (by omega) (hJ.keep hp.mod) (by omega)) rfl ?_
    rintro _ w ⟨rfl, hk⟩
    have hp := hp.comp hk
    have hpS9 := (hp.sub (.cons _ (.cons _ (.cons _ (.cons _ (.cons_cons _ (.cons_cons _ .slnil)))))))
    refine GL_nil ⟨fun _ => hpS9, ?_⟩
    refine GO_rd rfl rfl (wn_on rfl rfl rfl rfl) rfl hpS9 (fun w hp => (rd_bin rfl rfl rfl bo_neq)) ?_
    refine GO_rdT (v := .bool _) rfl (wn_none rfl) rfl (fun w => (rd_pickF rfl rfl rfl)) ?_
    refine GO_nil ?_
    refine GW_cond rfl (fun hb4 => ?_) (fun hb4 => ?_)
    ·(try simp only [decide_eq_true_eq, decide_eq_false_iff_not, Bool.not_eq_true', Bool.not_eq_false', Bool.not_eq_eq_eq_not, Bool.not_true, Bool.not_false, Int.not_lt, Int.not_le] at hb4)
     exact absurd trivial hb4
    ·(try simp only [decide_eq_true_eq, decide_eq_false_iff_not, Bool.not_eq_true', Bool.not_eq_false', Bool.not_eq_eq_eq_not, Bool.not_true, Bool.not_false, Int.not_lt, Int.not_le] at hb4)
     refine GW_skip ?_
     refine GW_seq ?_
     refine GW_seq ?_
     refine GW_region ?_
     refine GL_rd (v := .int _ _) (wn_none rfl) rfl (rd_assign rfl rfl) ?_
     refine GL_nil ?_
     refine GW_block ?_
     refine GW_loop ?_
     refine Lp_ind (α := Nat × Option Addr × Option Addr) (fun a_0 f_0 w' => match a_0 with | (i, Au, Av) => ∃ fz, f_0 = (upd (upd (upd fz 9 (.slice Au (unl (imask p l) (imask p q) (max m k)).length cu)) 10 (.slice Av (unl (imask p l) (imask p q) (max m k)).length cv)) 11 (.int .i64 (i : Int))) ∧ Hp w0 [] w' [.row 3 1 (.slice Au (unl (imask p l) (imask p q) (max m k)).length cu) (unl (imask p l) (imask p q) (max m k)).length ((unl (imask p l) (imask p q) (max m k)).map (Value.int .i64)), .row 3 1 (.slice Av (unl (imask p l) (imask p q) (max m k)).length cv) (unl (imask p l) (imask p q) (max m k)).length ((unl (imask p l) (imask p q) (max m k)).map (Value.int .i64))] ∧ (i ≤ (unl (imask p l) (imask p q) (max m k)).length)) (fun a_0 => match a_0 with | (i, Au, Av) => (unl (imask p l) (imask p q) (max m k)).length - i) ?_ (0, Au, Av) _ _ ?_
     ·rintro ⟨i, Au, Av⟩ f wz ⟨fz, rfl, hp, hi0⟩ ihL0
      have hul := unl_le (imask p l) (imask p q) (max m k)
      refine Lp_round ?_
      refine GW_seq ?_
      refine GW_seq ?_
      refine GW_region ?_
      refine GL_rd (v := .int _ _) (wn_none rfl) rfl (rd_move rfl rfl) ?_
      refine GL_rd (v := .slice _ _ _) (wn_none rfl) rfl (rd_move rfl rfl) ?_
      refine GL_rd (wn_none rfl) rfl (rd_len rfl rfl Try.underlying32) ?_
      refine GL_rd (wn_none rfl) rfl (rd_bin rfl rfl rfl bo_lss) ?_
      refine GL_nil ?_
      refine GW_cond rfl (fun hb5 => ?_) (fun hb5 => ?_)
      ·(try simp only [decide_eq_true_eq, decide_eq_false_iff_not, Bool.not_eq_true', Bool.not_eq_false', Bool.not_eq_eq_eq_not, Bool.not_true, Bool.not_false, Int.not_lt, Int.not_le] at hb5)
       have hil : i < (unl (imask p l) (imask p q) (max m k)).length := by have := hb5; omega
       obtain ⟨gU, bU, rfl⟩ := (Sl.row (hp.get 0 rfl)).addr (by rw [List.length_map]; omega)
       obtain ⟨gV, bV, rfl⟩ := (Sl.row (hp.get 1 rfl)).addr (by rw [List.length_map]; omega)
       refine GW_skip ?_
       refine GW_seq ?_
       refine GW_block ?_
       refine GW_seq ?_
       refine GW_drawnK 9 (.one 0 true (.one 1 true (.one 2 true (.one 3 true (.one 4 true (.one 5 true (.one 6 true (.one 7 true (.one 8 true .nil))))))))) mixed (by kernel_rfl) hp (fun _ h => h) fun w hp => ?_
       have hpS10 := hp
       refine GO_rdT (v := .slice _ _ _) rfl (wn_none rfl) rfl (fun w => (rd_move rfl rfl)) ?_
       refine GO_rdT (v := .int _ _) rfl (wn_none rfl) rfl (fun w => (rd_move rfl rfl)) ?_
       refine GO_rdT rfl (wn_none rfl) rfl (fun w => (rd_indexS (j := i) rfl rfl rfl Try.underlying32 ts3 rfl hil _ rfl)) ?_
       refine GO_rd rfl rfl (wn_none rfl) rfl hpS10 (fun w hp => (rd_load rfl rfl Try.underlying3 rfl (int_cell (i := i) (Sl.row (hp.get 0 rfl)) (by omega)))) ?_
       refine GO_rdT (v := .slice _ _ _) rfl (wn_none rfl) rfl (fun w => (rd_move rfl rfl)) ?_
       refine GO_rdT (v := .int _ _) rfl (wn_none rfl) rfl (fun w => (rd_move rfl rfl)) ?_
       refine GO_rdT rfl (wn_none rfl) rfl (fun w => (rd_indexS (j := i) rfl rfl rfl Try.underlying32 ts3 rfl hil _ rfl)) ?_
       refine GO_rd rfl rfl (wn_none rfl) rfl hpS10 (fun w hp => (rd_load rfl rfl Try.underlying3 rfl (int_cell (i := i) (Sl.row (hp.get 1 rfl)) (by omega)))) ?_
       refine GO_rd rfl rfl (wn_none rfl) rfl hpS10 (fun w hp => (rd_bin rfl rfl rfl (bo_neqS rfl))) ?_
       refine GO_nil ?_
       refine GW_false rfl ?_
       refine GW_skip ?_
       refine GW_region ?_
       refine GL_rd (v := .int _ _) (wn_none rfl) rfl (rd_move rfl rfl) ?_
       refine GL_rd (wn_none rfl) rfl (rd_bin rfl rfl rfl (bo_add64 (by omega))) ?_
       refine GL_rd (v := .int _ _) (wn_none rfl) rfl (rd_assign rfl rfl) ?_
       refine GL_nil ?_
       exact ihL0 (i + 1, _, _) _ _ (by simp only []; omega) ⟨_, slots3 rfl rfl rfl, hp, by omega⟩
      ·(try simp only [decide_eq_true_eq, decide_eq_false_iff_not, Bool.not_eq_true', Bool.not_eq_false', Bool.not_eq_eq_eq_not, Bool.not_true, Bool.not_false, Int.not_lt, Int.not_le] at hb5)
       refine GW_exit ?_
       refine GW_seq ?_
       refine GW_region ?_
       refine GL_call (wn_none rfl) rfl rfl (law_mworks _) rfl ?_
       rintro _ w ⟨rfl, hk⟩
       have hp := hp.comp hk
       refine GL_rd (v := .bool _) (wn_none rfl) rfl (rd_assign rfl rfl) ?_
       refine GL_nil ?_
       refine GW_ret ?_
       exact ⟨_, res1 Try.results3 (rv_tmp (v := .bool _) rfl rfl), rfl, hp.mods⟩
     ·have hp := (((hp.front 2 rfl).front 3 rfl).take 2)
      refine ⟨_, slots3 rfl rfl rfl, hp, Nat.zero_le _⟩

set_option maxRecDepth 100000 in
theorem law_MaskFinds (p : Pl) (sv bv : Value) (m n : Nat) (l : List Sec) (b : List UInt8) (w0 : World) (hI : Sl w0 sv 256 m (l.flatMap seC)) (hB : Sl w0 bv 1 n (bys b)) : Does Try.prog 4 #[.agg ⟨plC p⟩, sv, bv] w0 fun v w' => v = .bool true ∧ Hp w0 [] w' [] := by
 obtain ⟨A, c, rfl⟩ := sl_shape hI
 have hlen := flat_len seC_len (by decide) hI.len
 obtain ⟨B, d, rfl⟩ := sl_shape hB
 refine does_of (l := [.agg ⟨plC p⟩, .slice A m c, .slice B n d]) Try.func4 (by kernel_rfl) rfl Try.ntmps4 rfl rfl ?_
 have hp := Hp.refl w0 []
 refine GW_seq ?_
 refine GW_region ?_
 refine GL_box (wn_none rfl) rfl rfl rfl rfl hp ?_
 intro g w hp
 refine GL_rd (v := .bool _) (wn_none rfl) rfl (rd_assign rfl rfl) ?_
 refine GL_nil ?_
 refine GW_seq ?_
 refine GW_seq ?_
 refine GW_region ?_
 refine GL_rd (v := .slice _ _ _) (wn_none rfl) rfl (rd_move rfl rfl) ?_
 refine GL_call (wn_none rfl) rfl rfl (law_mlight _ _ m 0 _ _ _ (hI.keep hp.mod) (Sl.nil _ 256)) rfl ?_
 rintro _ w ⟨rfl, hk⟩
 have hp := hp.comp hk
 refine GL_rd (wn_none rfl) rfl (rd_not rfl rfl) ?_
 refine GL_rd (v := .bool _) (wn_none rfl) rfl (rd_move rfl rfl) ?_
 refine GL_split (t := 18) (b := _) rfl ?_ ?_
 ·intro hb; (try simp only [decide_eq_true_eq, decide_eq_false_iff_not, Bool.not_eq_true', Bool.not_eq_false', Bool.not_eq_eq_eq_not, Bool.not_true, Bool.not_false, Int.not_lt, Int.not_le] at hb)
  refine GL_pass (nw_off rfl rfl rfl rfl rfl) rfl ?_
  refine GL_pass (nw_off rfl rfl rfl rfl rfl) rfl ?_
  refine GL_pass (nw_off rfl rfl rfl rfl rfl) rfl ?_
  refine GL_rd (v := .bool _) (wn_none rfl) rfl (rd_pickT rfl rfl rfl) ?_
  refine GL_nil ?_
  refine GW_true rfl ?_
  refine GW_seq ?_
  refine GW_region ?_
  refine GL_call (wn_none rfl) rfl rfl (law_mworks _) rfl ?_
  rintro _ w ⟨rfl, hk⟩
  have hp := hp.comp hk
  refine GL_rd (v := .bool _) (wn_none rfl) rfl (rd_assign rfl rfl) ?_
  refine GL_nil ?_
  refine GW_ret ?_
  exact ⟨_, res1 Try.results4 (rv_tmp (v := .bool _) rfl rfl), rfl, hp.mods⟩
 ·intro hb; (try simp only [decide_eq_true_eq, decide_eq_false_iff_not, Bool.not_eq_true', Bool.not_eq_false', Bool.not_eq_eq_eq_not, Bool.not_true, Bool.not_false, Int.not_lt, Int.not_le] at hb)
  have hlt := hb
  refine GL_rd (v := .slice _ _ _) (wn_on rfl rfl rfl rfl) rfl (rd_move rfl rfl) ?_
  refine GL_rd (wn_on rfl rfl rfl rfl) rfl (rd_len rfl rfl Try.underlying39) ?_
  refine GL_rd (wn_on rfl rfl rfl rfl) rfl (rd_bin rfl rfl rfl bo_gtr) ?_
  refine GL_rd (v := .bool _) (wn_none rfl) rfl (rd_pickF rfl rfl rfl) ?_
  refine GL_nil ?_
  refine GW_cond rfl (fun hb2 => ?_) (fun hb2 => ?_)
  ·(try simp only [decide_eq_true_eq, decide_eq_false_iff_not, Bool.not_eq_true', Bool.not_eq_false', Bool.not_eq_eq_eq_not, Bool.not_true, Bool.not_false, Int.not_lt, Int.not_le] at hb2)
   refine GW_seq ?_
   refine GW_region ?_
   refine GL_call (wn_none rfl) rfl rfl (law_mworks _) rfl ?_
   rintro _ w ⟨rfl, hk⟩
   have hp := hp.comp hk
   refine GL_rd (v := .bool _) (wn_none rfl) rfl (rd_assign rfl rfl) ?_
   refine GL_nil ?_
   refine GW_ret ?_
   exact ⟨_, res1 Try.results4 (rv_tmp (v := .bool _) rfl rfl), rfl, hp.mods⟩
  ·(try simp only [decide_eq_true_eq, decide_eq_false_iff_not, Bool.not_eq_true', Bool.not_eq_false', Bool.not_eq_eq_eq_not, Bool.not_true, Bool.not_false, Int.not_lt, Int.not_le] at hb2)
   have hn3 := hb2
   refine GW_skip ?_
   refine GW_seq ?_
   refine GW_region ?_
   refine GL_rd (wn_none rfl) rfl (rd_loadC rfl rfl Try.underlying23 rfl ts23 (hp.get 0 rfl) (by first | rfl | simp [bys_length, *])) ?_
   refine GL_call (wn_none rfl) rfl rfl (plan_Of p _) rfl ?_
   rintro _ w ⟨rfl, hk⟩
   have hp := hp.comp hk
   refine GL_rd (v := .tuple _) (wn_none rfl) rfl (rd_move rfl rfl) ?_
   refine GL_rd (v := .agg ⟨_⟩) (wn_none rfl) rfl (rd_extract rfl rfl rfl) ?_
   refine GL_rd (v := .int _ _) (wn_none rfl) rfl (rd_extract rfl rfl rfl) ?_
   refine GL_alloc (wn_none rfl) rfl rfl tz28 rfl hp ?_
   intro g2 w hp
   refine GL_store (i := 0) (wn_none rfl) rfl rfl rfl rfl ts28 rfl (layV_len _) (layV_one _) hp rfl (Nat.le_of_ble_eq_true rfl) (splice_all _ _ (layV_len _)) ?_
   intro w hp
   refine GL_rd (v := .int _ _) (wn_none rfl) rfl (rd_assign rfl rfl) ?_
   refine GL_nil ?_
   refine GW_seq ?_
   refine GW_seq ?_
   refine GW_region ?_
   refine GL_rd (v := .int _ _) (wn_none rfl) rfl (rd_move rfl rfl) ?_
   refine GL_rd (wn_none rfl) rfl (rd_bin rfl rfl rfl bo_neq) ?_
   refine GL_nil ?_
   refine GW_cond rfl (fun hb3 => ?_) (fun hb3 => ?_)
   ·(try simp only [decide_eq_true_eq, decide_eq_false_iff_not, Bool.not_eq_true', Bool.not_eq_false', Bool.not_eq_eq_eq_not, Bool.not_true, Bool.not_false, Int.not_lt, Int.not_le] at hb3)
    refine GW_seq ?_
    refine GW_region ?_
    refine GL_call (wn_none rfl) rfl rfl (law_mworks _) rfl ?_
    rintro _ w ⟨rfl, hk⟩
    have hp := hp.comp hk
    refine GL_rd (v := .bool _) (wn_none rfl) rfl (rd_assign rfl rfl) ?_
    refine GL_nil ?_
    refine GW_ret ?_
    exact ⟨_, res1 Try.results4 (rv_tmp (v := .bool _) rfl rfl), rfl, hp.mods⟩
   ·(try simp only [decide_eq_true_eq, decide_eq_false_iff_not, Bool.not_eq_true', Bool.not_eq_false', Bool.not_eq_eq_eq_not, Bool.not_true, Bool.not_false, Int.not_lt, Int.not_le] at hb3)
    have hc : planC p = 0 := hb3
    have hpl := planC_iff.1 hc
    rw [layV_yes hc] at hp
    refine GW_skip ?_
    refine GW_seq ?_
    refine GW_region ?_
    refine GL_rd (wn_none rfl) rfl (rd_loadC rfl rfl Try.underlying23 rfl ts23 (hp.get 1 rfl) (by first | rfl | simp [bys_length, *])) ?_
    refine GL_call (wn_none rfl) rfl rfl (ref_plParts p _ hpl) rfl ?_
    intro vp w hk
    have hp := hp.comp hk
    obtain ⟨Ap, cp, rfl⟩ := row_shape (hp.get 0 rfl)
    refine GL_rd (v := .slice _ _ _) (wn_none rfl) rfl (rd_assign rfl rfl) ?_
    refine GL_nil ?_
    refine GW_seq ?_
    refine GW_region ?_
    refine GL_rd (wn_none rfl) rfl (rd_loadC rfl rfl Try.underlying28 rfl ts28 (hp.get 1 rfl) (by first | rfl | simp [bys_length, *])) ?_
    refine GL_rd (v := .slice _ _ _) (wn_none rfl) rfl (rd_move rfl rfl) ?_
    refine GL_call (wn_none rfl) rfl rfl (mask_Count p _ m l _ (hI.keep hp.mod) (by omega)) rfl ?_
    rintro _ w ⟨gq, M, rfl, hM, hk⟩
    have hp := hp.comp hk
    refine GL_rd (v := _) (wn_none rfl) rfl (rd_assign rfl rfl) ?_
    refine GL_nil ?_
    refine GW_seq ?_
    refine GW_region ?_
    refine GL_lit (L := (partNames.map Value.string)) (wn_none rfl) rfl rfl Try.underlying40 ts9 tz9 rfl (by kernel_rfl) rfl rfl hp ?_
    intro g3 w hp
    refine GL_rd (v := .slice _ _ _) (wn_none rfl) rfl (rd_assign rfl rfl) ?_
    refine GL_nil ?_
    refine GW_seq ?_
    refine GW_seq ?_
    refine GW_region ?_
    refine GL_rd (v := .int _ _) (wn_none rfl) rfl (rd_assign rfl rfl) ?_
    refine GL_nil ?_
    refine GW_block ?_
    refine GW_loop ?_
    refine Lp_ind (α := Nat × Option Addr × Option Addr) (fun a_0 f_0 w' => match a_0 with | (i, A, Ap) => ∃ fz, f_0 = (upd (upd (upd (upd (upd (upd fz 1 (.slice A m c)) 2 (.slice B n d)) 9 (.slice Ap (partsL p).length cp)) 10 (.map (some gq))) 11 (.slice (some ⟨g3, 0, none⟩) 12 12)) 12 (.int .i64 (i : Int))) ∧ Hp w0 [] w' [.row 9 1 (.slice (some ⟨g3, 0, none⟩) 12 12) 12 (partNames.map Value.string), .blk gq (.map ⟨cntE 0 M⟩ M.length), .row 9 1 (.slice Ap (partsL p).length cp) (partsL p).length ((partsL p).map Value.string)] ∧ (i ≤ 12) ∧ (Sl w0 (.slice A m c) 256 m (l.flatMap seC))) (fun a_0 => match a_0 with | (i, A, Ap) => 12 - i) ?_ (0, A, Ap) _ _ ?_
    ·rintro ⟨i, A, Ap⟩ f wz ⟨fz, rfl, hp, hi0, hI⟩ ihL0
     refine Lp_round ?_
     refine GW_seq ?_
     refine GW_seq ?_
     refine GW_region ?_
     refine GL_rd (v := .int _ _) (wn_none rfl) rfl (rd_move rfl rfl) ?_
     refine GL_rd (v := .slice _ _ _) (wn_none rfl) rfl (rd_move rfl rfl) ?_
     refine GL_rd (wn_none rfl) rfl (rd_len rfl rfl Try.underlying40) ?_
     refine GL_rd (wn_none rfl) rfl (rd_bin rfl rfl rfl bo_lss) ?_
     refine GL_nil ?_
     refine GW_cond rfl (fun hb4 => ?_) (fun hb4 => ?_)
     ·(try simp only [decide_eq_true_eq, decide_eq_false_iff_not, Bool.not_eq_true', Bool.not_eq_false', Bool.not_eq_eq_eq_not, Bool.not_true, Bool.not_false, Int.not_lt, Int.not_le] at hb4)
      refine GW_skip ?_
      refine GW_seq ?_
      refine GW_block ?_
      refine GW_seq ?_
      refine GW_region ?_
      refine GL_rd (v := .int _ _) (wn_none rfl) rfl (rd_assign rfl rfl) ?_
      refine GL_nil ?_
      refine GW_seq ?_
      refine GW_seq ?_
      refine GW_region ?_
      refine GL_rd (v := .int _ _) (wn_none rfl) rfl (rd_assign rfl rfl) ?_
      refine GL_nil ?_
      refine GW_block ?_
      refine GW_loop ?_
      refine Lp_ind (α := Nat × Option Addr × Option Addr) (fun a_0 f_0 w' => match a_0 with | (j, A, Ap) => ∃ fz, f_0 = (upd (upd (upd (upd (upd (upd (upd (upd fz 1 (.slice A m c)) 2 (.slice B n d)) 9 (.slice Ap (partsL p).length cp)) 10 (.map (some gq))) 11 (.slice (some ⟨g3, 0, none⟩) 12 12)) 12 (.int .i64 (i : Int))) 13 (.int .i64 ((cntK p l (nmA i) j : Nat) : Int))) 14 (.int .i64 (j : Int))) ∧ Hp w0 [] w' [.row 9 1 (.slice (some ⟨g3, 0, none⟩) 12 12) 12 (partNames.map Value.string), .blk gq (.map ⟨cntE 0 M⟩ M.length), .row 9 1 (.slice Ap (partsL p).length cp) (partsL p).length ((partsL p).map Value.string)] ∧ (j ≤ m) ∧ (Sl w0 (.slice A m c) 256 m (l.flatMap seC))) (fun a_0 => match a_0 with | (j, A, Ap) => m - j) ?_ (0, A, Ap) _ _ ?_
      ·rintro ⟨j, A, Ap⟩ f wz ⟨fz, rfl, hp, hj0, hI⟩ ihL1
       have hck := cntK_le p l (nmA i) j
       refine Lp_round ?_
       refine GW_seq ?_
       refine GW_seq ?_
       refine GW_region ?_
       refine GL_rd (v := .int _ _) (wn_none rfl) rfl (rd_move rfl rfl) ?_
       refine GL_rd (v := .slice _ _ _) (wn_none rfl) rfl (rd_move rfl rfl) ?_
       refine GL_rd (wn_none rfl) rfl (rd_len rfl rfl Try.underlying24) ?_
       refine GL_rd (wn_none rfl) rfl (rd_bin rfl rfl rfl bo_lss) ?_
       refine GL_nil ?_
       refine GW_cond rfl (fun hb5 => ?_) (fun hb5 => ?_)
       ·(try simp only [decide_eq_true_eq, decide_eq_false_iff_not, Bool.not_eq_true', Bool.not_eq_false', Bool.not_eq_eq_eq_not, Bool.not_true, Bool.not_false, Int.not_lt, Int.not_le] at hb5)
        obtain ⟨gB, bB, rfl⟩ := hI.addr (by rw [flat_length seC_len]; omega)
        refine GW_skip ?_
        refine GW_seq ?_
        refine GW_block ?_
        refine GW_seq ?_
        refine GW_drawnK 36 (.one 0 true (.one 1 true (.one 2 true (.one 3 true (.one 4 true (.one 5 true (.one 6 true (.one 7 true (.one 8 true (.one 9 true (.one 10 true (.one 11 true (.one 12 true (.one 13 true (.one 14 true (.one 15 true (.one 16 true (.one 17 true (.one 18 true (.one 19 true (.one 20 true (.one 21 true (.one 22 true (.one 23 true (.one 24 true (.one 25 true (.one 26 true (.one 27 true (.one 28 true (.one 29 true (.one 30 true (.one 31 true (.one 32 true (.one 33 true (.one 34 true (.one 35 true .nil)))))))))))))))))))))))))))))))))))) mixed (by kernel_rfl) hp (fun _ h => h) fun w hp => ?_
        have hpS := hp
        refine GO_rdT (v := .slice _ _ _) rfl (wn_none rfl) rfl (fun w => (rd_move rfl rfl)) ?_
        refine GO_rdT (v := .int _ _) rfl (wn_none rfl) rfl (fun w => (rd_move rfl rfl)) ?_
        refine GO_rdT rfl (wn_none rfl) rfl (fun w => (rd_indexS (j := j) rfl rfl rfl Try.underlying24 ts44 rfl (by omega) _ rfl)) ?_
        refine GO_rd rfl rfl (wn_none rfl) rfl hpS (fun w hp => (rd_loadN (L := seC (seAt l j)) rfl rfl Try.underlying44 rfl ts44 (seC_len _) (fun jq u hj => (hI.keep hp.mod).elem seC_len j jq (seC_lt hj) (seAt_some (by omega)) hj))) ?_
        refine GO_rd rfl rfl (wn_none rfl) rfl hpS (fun w hp => (rd_buildA (L := (seC secZ)) rfl tz44 Try.underlying44 ts5 (by kernel_rfl))) ?_
        refine GO_rd rfl rfl (wn_none rfl) rfl hpS (fun w hp => (rd_bin rfl rfl rfl (bo_arrB Try.underlying44 Try.underlying5 ts5 (by kernel_rfl) (seAt _ _).2 secZ.2).2)) ?_
        refine GO_rdT (v := .bool _) rfl (wn_none rfl) rfl (fun w => (rd_move rfl rfl)) ?_
        refine GO_split (t := 56) (b := _) rfl ?_ ?_
        ·intro hb6; (try simp only [decide_eq_true_eq, decide_eq_false_iff_not, Bool.not_eq_true', Bool.not_eq_false', Bool.not_eq_eq_eq_not, Bool.not_true, Bool.not_false, Int.not_lt, Int.not_le] at hb6)
         have hz := hb6
         refine GO_rdT (v := .int _ _) rfl (wn_on rfl rfl rfl rfl) rfl (fun w => (rd_move rfl rfl)) ?_
         refine GO_rdT (v := .slice _ _ _) rfl (wn_on rfl rfl rfl rfl) rfl (fun w => (rd_move rfl rfl)) ?_
         refine GO_rd rfl rfl (wn_on rfl rfl rfl rfl) rfl hpS (fun w hp => (rd_len rfl rfl Try.underlying40)) ?_
         refine GO_rd rfl rfl (wn_on rfl rfl rfl rfl) rfl hpS (fun w hp => (rd_bin rfl rfl rfl bo_lss)) ?_
         refine GO_rdT (v := .bool _) rfl (wn_on rfl rfl rfl rfl) rfl (fun w => (rd_move rfl rfl)) ?_
         refine GO_split (t := 61) (b := _) rfl ?_ ?_
         ·intro hb7; (try simp only [decide_eq_true_eq, decide_eq_false_iff_not, Bool.not_eq_true', Bool.not_eq_false', Bool.not_eq_eq_eq_not, Bool.not_true, Bool.not_false, Int.not_lt, Int.not_le] at hb7)
          have hip : j < (partsL p).length := by have := hb7; omega
          obtain ⟨gP, bP, rfl⟩ := (Sl.row (hp.get 2 rfl)).addr (by rw [List.length_map]; omega)
          refine GO_rdT (v := .slice _ _ _) rfl (wn_on rfl rfl rfl rfl) rfl (fun w => (rd_move rfl rfl)) ?_
          refine GO_rdT (v := .int _ _) rfl (wn_on rfl rfl rfl rfl) rfl (fun w => (rd_move rfl rfl)) ?_
          refine GO_rdT rfl (wn_on rfl rfl rfl rfl) rfl (fun w => (rd_indexS (j := j) rfl rfl rfl Try.underlying40 ts9 rfl hip _ rfl)) ?_
          refine GO_rd rfl rfl (wn_on rfl rfl rfl rfl) rfl hpS (fun w hp => (rd_load rfl rfl Try.underlying9 rfl ((Sl.row (hp.get 2 rfl)).get _ _ (str_cell (A := partsL p) (i := j) hip (parts_at hpl hip))))) ?_
          refine GO_rdT (v := .slice _ _ _) rfl (wn_on rfl rfl rfl rfl) rfl (fun w => (rd_move rfl rfl)) ?_
          refine GO_rdT (v := .int _ _) rfl (wn_on rfl rfl rfl rfl) rfl (fun w => (rd_move rfl rfl)) ?_
          refine GO_rdT rfl (wn_on rfl rfl rfl rfl) rfl (fun w => (rd_indexS (j := i) rfl rfl rfl Try.underlying40 ts9 rfl (by omega) _ rfl)) ?_
          refine GO_rd rfl rfl (wn_on rfl rfl rfl rfl) rfl hpS (fun w hp => (rd_load rfl rfl Try.underlying9 rfl ((Sl.row (hp.get 0 rfl)).get _ _ (str_cell (A := partNames) (i := i) (show i < 12 by omega) (nmA_some (by omega)))))) ?_
          refine GO_rd rfl rfl (wn_on rfl rfl rfl rfl) rfl hpS (fun w hp => (rd_bin rfl rfl rfl bo_seql)) ?_
          refine GO_rdT (v := .bool _) rfl (wn_on rfl rfl rfl rfl) rfl (fun w => (rd_pickT rfl rfl rfl)) ?_
          refine GO_rdT (v := .bool _) rfl (wn_on rfl rfl rfl rfl) rfl (fun w => (rd_move rfl rfl)) ?_
          refine GO_split (t := 72) (b := _) rfl ?_ ?_
          ·intro hb8; (try simp only [decide_eq_true_eq, decide_eq_false_iff_not, Bool.not_eq_true', Bool.not_eq_false', Bool.not_eq_eq_eq_not, Bool.not_true, Bool.not_false, Int.not_lt, Int.not_le] at hb8)
           have hk : cntK p l (nmA i) (j + 1) = cntK p l (nmA i) j + 1 := cntK_yes hz hb8
           refine GO_pass rfl (nw_off rfl rfl rfl rfl rfl) rfl ?_
           refine GO_pass rfl (nw_off rfl rfl rfl rfl rfl) rfl ?_
           refine GO_pass rfl (nw_off rfl rfl rfl rfl rfl) rfl ?_
           refine GO_pass rfl (nw_off rfl rfl rfl rfl rfl) rfl ?_
           refine GO_pass rfl (nw_off rfl rfl rfl rfl rfl) rfl ?_
           refine GO_pass rfl (nw_undef rfl rfl rfl rfl) rfl ?_
           refine GO_pass rfl (nw_undef rfl rfl rfl rfl) rfl ?_
           refine GO_pass rfl (nw_undef rfl rfl rfl rfl) rfl ?_
           refine GO_pass rfl (nw_undef rfl rfl rfl rfl) rfl ?_
           refine GO_pass rfl (nw_undef rfl rfl rfl rfl) rfl ?_
           refine GO_pass rfl (nw_off rfl rfl rfl rfl rfl) rfl ?_
           refine GO_rdT (v := .bool _) rfl (wn_on rfl rfl rfl rfl) rfl (fun w => (rd_pickT rfl rfl rfl)) ?_
           refine GO_rdT (v := .bool _) rfl (wn_none rfl) rfl (fun w => (rd_pickT rfl rfl rfl)) ?_
           refine GO_nil ?_
           refine GW_true rfl ?_
           refine GW_region ?_
           refine GL_rd (v := .int _ _) (wn_none rfl) rfl (rd_move rfl rfl) ?_
           refine GL_rd (wn_none rfl) rfl (rd_bin rfl rfl rfl (bo_int (q := ((cntK p l (nmA i) (j + 1) : Nat) : Int)) (bo_add64 (by omega)) (by rw [hk]; omega))) ?_
           refine GL_rd (v := .int _ _) (wn_none rfl) rfl (rd_assign rfl rfl) ?_
           refine GL_nil ?_
           refine GW_region ?_
           refine GL_rd (v := .int _ _) (wn_none rfl) rfl (rd_move rfl rfl) ?_
           refine GL_rd (wn_none rfl) rfl (rd_bin rfl rfl rfl (bo_add64 (by omega))) ?_
           refine GL_rd (v := .int _ _) (wn_none rfl) rfl (rd_assign rfl rfl) ?_
           refine GL_nil ?_
           exact ihL1 (j + 1, _, _) _ _ (by simp only []; omega) ⟨_, slots8 rfl rfl rfl rfl rfl rfl (by first | rfl | (rw [hk]; rfl)) rfl, hp, by omega, hI⟩
          ·intro hb8; (try simp only [decide_eq_true_eq, decide_eq_false_iff_not, Bool.not_eq_true', Bool.not_eq_false', Bool.not_eq_eq_eq_not, Bool.not_true, Bool.not_false, Int.not_lt, Int.not_le] at hb8)
           have hk : cntK p l (nmA i) (j + 1) = cntK p l (nmA i) j := cntK_n hb8
           refine GO_rdT (v := .int _ _) rfl (wn_on rfl rfl rfl rfl) rfl (fun w => (rd_move rfl rfl)) ?_
           refine GO_rdT (v := .slice _ _ _) rfl (wn_on rfl rfl rfl rfl) rfl (fun w => (rd_move rfl rfl)) ?_
           refine GO_rd rfl rfl (wn_on rfl rfl rfl rfl) rfl hpS (fun w hp => (rd_len rfl rfl Try.underlying40)) ?_
           refine GO_rd rfl rfl (wn_on rfl rfl rfl rfl) rfl hpS (fun w hp => (rd_bin rfl rfl rfl bo_geq)) ?_
           refine GO_rdT (v := .bool _) rfl (wn_on rfl rfl rfl rfl) rfl (fun w => (rd_move rfl rfl)) ?_
           refine GO_split (t := 77) (b := _) rfl ?_ ?_
           ·intro hb9; (try simp only [decide_eq_true_eq, decide_eq_false_iff_not, Bool.not_eq_true', Bool.not_eq_false', Bool.not_eq_eq_eq_not, Bool.not_true, Bool.not_false, Int.not_lt, Int.not_le] at hb9)
            exact absurd hb9 (by omega)
           ·intro hb9; (try simp only [decide_eq_true_eq, decide_eq_false_iff_not, Bool.not_eq_true', Bool.not_eq_false', Bool.not_eq_eq_eq_not, Bool.not_true, Bool.not_false, Int.not_lt, Int.not_le] at hb9)
            refine GO_pass rfl (nw_off rfl rfl rfl rfl rfl) rfl ?_
            refine GO_pass rfl (nw_off rfl rfl rfl rfl rfl) rfl ?_
            refine GO_pass rfl (nw_off rfl rfl rfl rfl rfl) rfl ?_
            refine GO_pass rfl (nw_off rfl rfl rfl rfl rfl) rfl ?_
            refine GO_pass rfl (nw_off rfl rfl rfl rfl rfl) rfl ?_
            refine GO_rdT (v := .bool _) rfl (wn_on rfl rfl rfl rfl) rfl (fun w => (rd_pickF rfl rfl rfl)) ?_
            refine GO_rdT (v := .bool _) rfl (wn_on rfl rfl rfl rfl) rfl (fun w => (rd_pickF rfl rfl rfl)) ?_
            refine GO_rdT (v := .bool _) rfl (wn_none rfl) rfl (fun w => (rd_pickT rfl rfl rfl)) ?_
            refine GO_nil ?_
            refine GW_false rfl ?_
            refine GW_skip ?_
            refine GW_region ?_
            refine GL_rd (v := .int _ _) (wn_none rfl) rfl (rd_move rfl rfl) ?_
            refine GL_rd (wn_none rfl) rfl (rd_bin rfl rfl rfl (bo_add64 (by omega))) ?_
            refine GL_rd (v := .int _ _) (wn_none rfl) rfl (rd_assign rfl rfl) ?_
            refine GL_nil ?_
            exact ihL1 (j + 1, _, _) _ _ (by simp only []; omega) ⟨_, slots8 rfl rfl rfl rfl rfl rfl (by first | rfl | (rw [hk]; rfl)) rfl, hp, by omega, hI⟩
         ·intro hb7; (try simp only [decide_eq_true_eq, decide_eq_false_iff_not, Bool.not_eq_true', Bool.not_eq_false', Bool.not_eq_eq_eq_not, Bool.not_true, Bool.not_false, Int.not_lt, Int.not_le] at hb7)
          have hip : (partsL p).length ≤ j := by have := hb7; omega
          refine GO_pass rfl (nw_off rfl rfl rfl rfl rfl) rfl ?_
          refine GO_pass rfl (nw_off rfl rfl rfl rfl rfl) rfl ?_
          refine GO_pass rfl (nw_off rfl rfl rfl rfl rfl) rfl ?_
          refine GO_pass rfl (nw_off rfl rfl rfl rfl rfl) rfl ?_
          refine GO_pass rfl (nw_off rfl rfl rfl rfl rfl) rfl ?_
          refine GO_pass rfl (nw_off rfl rfl rfl rfl rfl) rfl ?_
          refine GO_pass rfl (nw_off rfl rfl rfl rfl rfl) rfl ?_
          refine GO_pass rfl (nw_off rfl rfl rfl rfl rfl) rfl ?_
          refine GO_pass rfl (nw_off rfl rfl rfl rfl rfl) rfl ?_
          refine GO_rdT (v := .bool _) rfl (wn_on rfl rfl rfl rfl) rfl (fun w => (rd_pickF rfl rfl rfl)) ?_
          refine GO_rdT (v := .bool _) rfl (wn_on rfl rfl rfl rfl) rfl (fun w => (rd_move rfl rfl)) ?_
          refine GO_rdT (v := .int _ _) rfl (wn_on rfl rfl rfl rfl) rfl (fun w => (rd_move rfl rfl)) ?_
          refine GO_rdT (v := .slice _ _ _) rfl (wn_on rfl rfl rfl rfl) rfl (fun w => (rd_move rfl rfl)) ?_
          refine GO_rd rfl rfl (wn_on rfl rfl rfl rfl) rfl hpS (fun w hp => (rd_len rfl rfl Try.underlying40)) ?_
          refine GO_rd rfl rfl (wn_on rfl rfl rfl rfl) rfl hpS (fun w hp => (rd_bin rfl rfl rfl bo_geq)) ?_
          refine GO_rdT (v := .bool _) rfl (wn_on rfl rfl rfl rfl) rfl (fun w => (rd_move rfl rfl)) ?_
          refine GO_split (t := 77) (b := _) rfl ?_ ?_
          ·intro hb10; (try simp only [decide_eq_true_eq, decide_eq_false_iff_not, Bool.not_eq_true', Bool.not_eq_false', Bool.not_eq_eq_eq_not, Bool.not_true, Bool.not_false, Int.not_lt, Int.not_le] at hb10)
           refine GO_rdT (v := .slice _ _ _) rfl (wn_on rfl rfl rfl rfl) rfl (fun w => (rd_move rfl rfl)) ?_
           refine GO_rdT (v := .int _ _) rfl (wn_on rfl rfl rfl rfl) rfl (fun w => (rd_move rfl rfl)) ?_
           refine GO_rdT rfl (wn_on rfl rfl rfl rfl) rfl (fun w => (rd_indexS (j := i) rfl rfl rfl Try.underlying40 ts9 rfl (by omega) _ rfl)) ?_
           refine GO_rd rfl rfl (wn_on rfl rfl rfl rfl) rfl hpS (fun w hp => (rd_load rfl rfl Try.underlying9 rfl ((Sl.row (hp.get 0 rfl)).get _ _ (str_cell (A := partNames) (i := i) (show i < 12 by omega) (nmA_some (by omega)))))) ?_
           refine GO_rd rfl rfl (wn_on rfl rfl rfl rfl) rfl hpS (fun w hp => (rd_bin rfl rfl rfl bo_seql)) ?_
           refine GO_rdT (v := .bool _) rfl (wn_on rfl rfl rfl rfl) rfl (fun w => (rd_pickT rfl rfl rfl)) ?_
           refine GO_rdT (v := .bool _) rfl (wn_on rfl rfl rfl rfl) rfl (fun w => (rd_pickF rfl rfl rfl)) ?_
           refine GO_rdT (v := .bool _) rfl (wn_none rfl) rfl (fun w => (rd_pickT rfl rfl rfl)) ?_
           refine GO_nil ?_
           refine GW_cond rfl (fun hb11 => ?_) (fun hb11 => ?_)
           ·(try simp only [decide_eq_true_eq, decide_eq_false_iff_not, Bool.not_eq_true', Bool.not_eq_false', Bool.not_eq_eq_eq_not, Bool.not_true, Bool.not_false, Int.not_lt, Int.not_le] at hb11)
            have hk : cntK p l (nmA i) (j + 1) = cntK p l (nmA i) j + 1 := cntK_yes hz ((parts_out hpl hip).trans (Eq.symm hb11))
            refine GW_region ?_
            refine GL_rd (v := .int _ _) (wn_none rfl) rfl (rd_move rfl rfl) ?_
            refine GL_rd (wn_none rfl) rfl (rd_bin rfl rfl rfl (bo_int (q := ((cntK p l (nmA i) (j + 1) : Nat) : Int)) (bo_add64 (by omega)) (by rw [hk]; omega))) ?_
            refine GL_rd (v := .int _ _) (wn_none rfl) rfl (rd_assign rfl rfl) ?_
            refine GL_nil ?_
            refine GW_region ?_
            refine GL_rd (v := .int _ _) (wn_none rfl) rfl (rd_move rfl rfl) ?_
            refine GL_rd (wn_none rfl) rfl (rd_bin rfl rfl rfl (bo_add64 (by omega))) ?_
            refine GL_rd (v := .int _ _) (wn_none rfl) rfl (rd_assign rfl rfl) ?_
            refine GL_nil ?_
            exact ihL1 (j + 1, _, _) _ _ (by simp only []; omega) ⟨_, slots8 rfl rfl rfl rfl rfl rfl (by first | rfl | (rw [hk]; rfl)) rfl, hp, by omega, hI⟩
           ·(try simp only [decide_eq_true_eq, decide_eq_false_iff_not, Bool.not_eq_true', Bool.not_eq_false', Bool.not_eq_eq_eq_not, Bool.not_true, Bool.not_false, Int.not_lt, Int.not_le] at hb11)
            have hk : cntK p l (nmA i) (j + 1) = cntK p l (nmA i) j := cntK_n (fun e => hb11 (e.symm.trans (parts_out hpl hip)))
            refine GW_skip ?_
            refine GW_region ?_
            refine GL_rd (v := .int _ _) (wn_none rfl) rfl (rd_move rfl rfl) ?_
            refine GL_rd (wn_none rfl) rfl (rd_bin rfl rfl rfl (bo_add64 (by omega))) ?_
            refine GL_rd (v := .int _ _) (wn_none rfl) rfl (rd_assign rfl rfl) ?_
            refine GL_nil ?_
            exact ihL1 (j + 1, _, _) _ _ (by simp only []; omega) ⟨_, slots8 rfl rfl rfl rfl rfl rfl (by first | rfl | (rw [hk]; rfl)) rfl, hp, by omega, hI⟩
          ·intro hb10; (try simp only [decide_eq_true_eq, decide_eq_false_iff_not, Bool.not_eq_true', Bool.not_eq_false', Bool.not_eq_eq_eq_not, Bool.not_true, Bool.not_false, Int.not_lt, Int.not_le] at hb10)
           exact absurd hb10 (by omega)
        ·intro hb6; (try simp only [decide_eq_true_eq, decide_eq_false_iff_not, Bool.not_eq_true', Bool.not_eq_false', Bool.not_eq_eq_eq_not, Bool.not_true, Bool.not_false, Int.not_lt, Int.not_le] at hb6)
         have hk : cntK p l (nmA i) (j + 1) = cntK p l (nmA i) j := cntK_z _ hb6
         refine GO_pass rfl (nw_off rfl rfl rfl rfl rfl) rfl ?_
         refine GO_pass rfl (nw_off rfl rfl rfl rfl rfl) rfl ?_
         refine GO_pass rfl (nw_off rfl rfl rfl rfl rfl) rfl ?_
         refine GO_pass rfl (nw_off rfl rfl rfl rfl rfl) rfl ?_
         refine GO_pass rfl (nw_off rfl rfl rfl rfl rfl) rfl ?_
         refine GO_pass rfl (nw_undef rfl rfl rfl rfl) rfl ?_
         refine GO_pass rfl (nw_undef rfl rfl rfl rfl) rfl ?_
         refine GO_pass rfl (nw_undef rfl rfl rfl rfl) rfl ?_
         refine GO_pass rfl (nw_undef rfl rfl rfl rfl) rfl ?_
         refine GO_pass rfl (nw_undef rfl rfl rfl rfl) rfl ?_
         refine GO_pass rfl (nw_undef rfl rfl rfl rfl) rfl ?_
         refine GO_pass rfl (nw_undef rfl rfl rfl rfl) rfl ?_
         refine GO_pass rfl (nw_undef rfl rfl rfl rfl) rfl ?_
         refine GO_pass rfl (nw_undef rfl rfl rfl rfl) rfl ?_
         refine GO_pass rfl (nw_off rfl rfl rfl rfl rfl) rfl ?_
         refine GO_pass rfl (nw_off rfl rfl rfl rfl rfl) rfl ?_
         refine GO_pass rfl (nw_undef rfl rfl rfl rfl) rfl ?_
         refine GO_pass rfl (nw_undef rfl rfl rfl rfl) rfl ?_
         refine GO_pass rfl (nw_undef rfl rfl rfl rfl) rfl ?_
         refine GO_pass rfl (nw_undef rfl rfl rfl rfl) rfl ?_
         refine GO_pass rfl (nw_undef rfl rfl rfl rfl) rfl ?_
         refine GO_pass rfl (nw_undef rfl rfl rfl rfl) rfl ?_
         refine GO_pass rfl (nw_undef rfl rfl rfl rfl) rfl ?_
         refine GO_pass rfl (nw_undef rfl rfl rfl rfl) rfl ?_
         refine GO_pass rfl (nw_undef rfl rfl rfl rfl) rfl ?_
         refine GO_pass rfl (nw_undef rfl rfl rfl rfl) rfl ?_
         refine GO_pass rfl (nw_undef rfl rfl rfl rfl) rfl ?_
         refine GO_pass rfl (nw_off rfl rfl rfl rfl rfl) rfl ?_
         refine GO_rdT (v := .bool _) rfl (wn_none rfl) rfl (fun w => (rd_pickF rfl rfl rfl)) ?_
         refine GO_nil ?_
         refine GW_false rfl ?_
         refine GW_skip ?_
         refine GW_region ?_
         refine GL_rd (v := .int _ _) (wn_none rfl) rfl (rd_move rfl rfl) ?_
         refine GL_rd (wn_none rfl) rfl (rd_bin rfl rfl rfl (bo_add64 (by omega))) ?_
         refine GL_rd (v := .int _ _) (wn_none rfl) rfl (rd_assign rfl rfl) ?_
         refine GL_nil ?_
         exact ihL1 (j + 1, _, _) _ _ (by simp only []; omega) ⟨_, slots8 rfl rfl rfl rfl rfl rfl (by first | rfl | (rw [hk]; rfl)) rfl, hp, by omega, hI⟩
       ·(try simp only [decide_eq_true_eq, decide_eq_false_iff_not, Bool.not_eq_true', Bool.not_eq_false', Bool.not_eq_eq_eq_not, Bool.not_true, Bool.not_false, Int.not_lt, Int.not_le] at hb5)
        obtain rfl : m = j := by omega
        refine GW_exit ?_
        refine GW_seq ?_
        refine GW_region ?_
        refine GL_rd (v := _) (wn_none rfl) rfl (rd_move rfl rfl) ?_
        refine GL_rd (v := .slice _ _ _) (wn_none rfl) rfl (rd_move rfl rfl) ?_
        refine GL_rd (v := .int _ _) (wn_none rfl) rfl (rd_move rfl rfl) ?_
        refine GL_rd (wn_none rfl) rfl (rd_indexS (j := i) rfl rfl rfl Try.underlying40 ts9 rfl (by omega) _ rfl) ?_
        refine GL_rd (wn_none rfl) rfl (rd_load rfl rfl Try.underlying9 rfl ((Sl.row (hp.get 0 rfl)).get _ _ (str_cell (A := partNames) (i := i) (show i < 12 by omega) (nmA_some (by omega))))) ?_
        refine GL_rd (wn_none rfl) rfl (rd_cntG rfl rfl rfl Try.underlying42 Try.underlying9 tz3 (hp.get 1 rfl)) ?_
        refine GL_rd (v := .int _ _) (wn_none rfl) rfl (rd_move rfl rfl) ?_
        refine GL_rd (wn_none rfl) rfl (rd_bin rfl rfl rfl bo_neq) ?_
        refine GL_nil ?_
        refine GW_cond rfl (fun hb12 => ?_) (fun hb12 => ?_)
        ·(try simp only [decide_eq_true_eq, decide_eq_false_iff_not, Bool.not_eq_true', Bool.not_eq_false', Bool.not_eq_eq_eq_not, Bool.not_true, Bool.not_false, Int.not_lt, Int.not_le] at hb12)
         exact absurd (hM _) hb12
        ·(try simp only [decide_eq_true_eq, decide_eq_false_iff_not, Bool.not_eq_true', Bool.not_eq_false', Bool.not_eq_eq_eq_not, Bool.not_true, Bool.not_false, Int.not_lt, Int.not_le] at hb12)
         refine GW_skip ?_
         refine GW_region ?_
         refine GL_rd (v := .int _ _) (wn_none rfl) rfl (rd_move rfl rfl) ?_
         refine GL_rd (wn_none rfl) rfl (rd_bin rfl rfl rfl (bo_add64 (by omega))) ?_
         refine GL_rd (v := .int _ _) (wn_none rfl) rfl (rd_assign rfl rfl) ?_
         refine GL_nil ?_
         have hp := ((((hp.front 2 rfl).front 2 rfl).front 2 rfl).take 3)
         exact ihL0 (i + 1, _, _) _ _ (by simp only []; omega) ⟨_, slots6 rfl rfl rfl rfl rfl rfl, hp, by omega, hI⟩
      ·refine ⟨_, slots8 rfl rfl rfl rfl rfl rfl rfl rfl, hp, Nat.zero_le _, hI⟩
     ·(try simp only [decide_eq_true_eq, decide_eq_false_iff_not, Bool.not_eq_true', Bool.not_eq_false', Bool.not_eq_eq_eq_not, Bool.not_true, Bool.not_false, Int.not_lt, Int.not_le] at hb4)
      refine GW_exit ?_
      refine GW_seq ?_
      refine GW_region ?_
      refine GL_rd (v := .slice _ _ _) (wn_none rfl) rfl (rd_move rfl rfl) ?_
      refine GL_rd (v := .slice _ _ _) (wn_none rfl) rfl (rd_move rfl rfl) ?_
      refine GL_call (wn_none rfl) rfl rfl (mask_Holds _ _ m n l b _ (hI.keep hp.mod) (by omega) (hB.keep hp.mod) (by omega)) rfl ?_
      rintro _ w ⟨rfl, hk⟩
      have hp := hp.comp hk
      refine GL_rd (v := .slice _ _ _) (wn_none rfl) rfl (rd_move rfl rfl) ?_
      refine GL_rd (v := .slice _ _ _) (wn_none rfl) rfl (rd_move rfl rfl) ?_
      refine GL_call (wn_none rfl) rfl rfl (ref_Holds _ _ m n l b _ (hI.keep hp.mod) (by omega) (hB.keep hp.mod) (by omega)) rfl ?_
      rintro _ w ⟨rfl, hk⟩
      have hp := hp.comp hk
      refine GL_rd (wn_none rfl) rfl (rd_bin rfl rfl rfl (bo_beql Try.underlying4)) ?_
      refine GL_rd (v := .bool _) (wn_none rfl) rfl (rd_move rfl rfl) ?_
      refine GL_split (t := 103) (b := _) rfl ?_ ?_
      ·intro hb13; (try simp only [decide_eq_true_eq, decide_eq_false_iff_not, Bool.not_eq_true', Bool.not_eq_false', Bool.not_eq_eq_eq_not, Bool.not_true, Bool.not_false, Int.not_lt, Int.not_le] at hb13)
       refine GL_call (wn_on rfl rfl rfl rfl) rfl rfl (law_mworks _) rfl ?_
       rintro _ w ⟨rfl, hk⟩
       have hp := hp.comp hk
       refine GL_rd (v := .bool _) (wn_none rfl) rfl (rd_pickT rfl rfl rfl) ?_
       refine GL_rd (v := .bool _) (wn_none rfl) rfl (rd_assign rfl rfl) ?_
       refine GL_nil ?_
       refine GW_ret ?_
       exact ⟨_, res1 Try.results4 (rv_tmp (v := .bool _) rfl rfl), rfl, hp.mods⟩
      ·intro hb13; (try simp only [decide_eq_true_eq, decide_eq_false_iff_not, Bool.not_eq_true', Bool.not_eq_false', Bool.not_eq_eq_eq_not, Bool.not_true, Bool.not_false, Int.not_lt, Int.not_le] at hb13)
       exact absurd hb13 (by simp)
    ·have hp := ((((hp.front 2 rfl).front 2 rfl).front 2 rfl).take 3)
     refine ⟨_, slots6 rfl rfl rfl rfl rfl rfl, hp, by decide, hI⟩

end Go.Proofs.Ytblpmjbddpadcaa
