/- Walks of functions of the program. -/
import Derived.Test.YtpagpmioopaciaaGreatPFPuT
set_option linter.unusedVariables false
set_option linter.unusedSimpArgs false
namespace Go.Proofs.YtpagpmioopaciaaGreat
open Go.Mo Go.RowKit
set_option maxHeartbeats 1000000 in
theorem ref_buCheck (b : Bu) (tv av : Value) (w0 : World) (hB : BuAt b tv av w0) (hS : BuSm b) : Does Tryz.prog 12 #[.agg ⟨buC b tv av⟩] w0 fun v w' => v = .int .i64 (buK b) ∧ Hp w0 [] w' [] := by
 have hS0 := hS
 obtain ⟨At, ct, rfl⟩ := sl_shape hB.tx
 obtain ⟨Aa, ca, rfl⟩ := sl_shape hB.au
 have htx := hB.tx
 have hau := hB.au
 obtain ⟨hSc, hSn, hSl, hSt, hSk, hSa⟩ := hS
 refine does_of (l := [.agg ⟨(buC b (.slice At b.tx.length ct) (.slice Aa b.au.length ca))⟩]) Tryz.func12 (by kernel_rfl) rfl Tryz.ntmps12 rfl rfl (by kernel_rfl) ?_
 have hp := Hp.refl w0 []
 refine GW_seq ?_
 refine GW_region ?_
 refine GL_box (wn_none rfl) rfl rfl rfl rfl hp ?_
 intro g w hp
 refine GL_rd (v := .int _ _) (wn_none rfl) rfl (rd_assign rfl rfl) ?_
 refine GL_nil ?_
 refine GW_seq ?_
 refine GW_seq ?_
 refine GW_region ?_
 refine GL_rd (wn_none rfl) rfl (rd_field rfl rfl fa25_0 _ rfl) ?_
 refine GL_rd (wn_none rfl) rfl (rd_load rfl rfl Tryz.underlying9 rfl ((cell_of_cells (hp.get 0 rfl) _).trans rfl)) ?_
 refine GL_rd (wn_none rfl) rfl (rd_lenS rfl rfl Tryz.underlying9) ?_
 refine GL_rd (wn_none rfl) rfl (rd_bin rfl rfl rfl bo_lss) ?_
 refine GL_rd (v := .bool _) (wn_none rfl) rfl (rd_move rfl rfl) ?_
 refine GL_split (t := 11) (b := _) rfl ?_ ?_
 ·intro hb; (try simp only [decide_eq_true_eq, decide_eq_false_iff_not, Bool.not_eq_true', Bool.not_eq_false', Bool.not_eq_eq_eq_not, Bool.not_true, Bool.not_false, Int.not_lt, Int.not_le] at hb)
  refine GL_pass (nw_off rfl rfl rfl rfl rfl) rfl ?_
  refine GL_pass (nw_off rfl rfl rfl rfl rfl) rfl ?_
  refine GL_pass (nw_off rfl rfl rfl rfl rfl) rfl ?_
  refine GL_pass (nw_off rfl rfl rfl rfl rfl) rfl ?_
  refine GL_rd (v := .bool _) (wn_none rfl) rfl (rd_pickT rfl rfl rfl) ?_
  refine GL_nil ?_
  refine GW_true rfl ?_
  refine GW_seq ?_
  refine GW_region ?_
  refine GL_rd (v := .int _ _) (wn_none rfl) rfl (rd_assign rfl rfl) ?_
  refine GL_nil ?_
  refine GW_ret ?_
  have eh : buHd b = 10 := by rw [buHd, if_pos (by omega)]
  exact ⟨_, res1 Tryz.results12 (rv_tmp (v := .int _ _) rfl rfl), by rw [buK_hd (by rw [eh]; decide), eh], hp.mods⟩
 ·intro hb; (try simp only [decide_eq_true_eq, decide_eq_false_iff_not, Bool.not_eq_true', Bool.not_eq_false', Bool.not_eq_eq_eq_not, Bool.not_true, Bool.not_false, Int.not_lt, Int.not_le] at hb)
  refine GL_rd (wn_on rfl rfl rfl rfl) rfl (rd_field rfl rfl fa25_0 _ rfl) ?_
  refine GL_rd (wn_on rfl rfl rfl rfl) rfl (rd_load rfl rfl Tryz.underlying9 rfl ((cell_of_cells (hp.get 0 rfl) _).trans rfl)) ?_
  refine GL_rd (wn_on rfl rfl rfl rfl) rfl (rd_lenS rfl rfl Tryz.underlying9) ?_
  refine GL_rd (wn_on rfl rfl rfl rfl) rfl (rd_bin rfl rfl rfl bo_gtr) ?_
  refine GL_rd (v := .bool _) (wn_none rfl) rfl (rd_pickF rfl rfl rfl) ?_
  refine GL_nil ?_
  refine GW_cond rfl (fun hb2 => ?_) (fun hb2 => ?_)
  ·(try simp only [decide_eq_true_eq, decide_eq_false_iff_not, Bool.not_eq_true', Bool.not_eq_false', Bool.not_eq_eq_eq_not, Bool.not_true, Bool.not_false, Int.not_lt, Int.not_le] at hb2)
   refine GW_seq ?_
   refine GW_region ?_
   refine GL_rd (v := .int _ _) (wn_none rfl) rfl (rd_assign rfl rfl) ?_
   refine GL_nil ?_
   refine GW_ret ?_
   have eh : buHd b = 10 := by rw [buHd, if_pos (by omega)]
   exact ⟨_, res1 Tryz.results12 (rv_tmp (v := .int _ _) rfl rfl), by rw [buK_hd (by rw [eh]; decide), eh], hp.mods⟩
  ·(try simp only [decide_eq_true_eq, decide_eq_false_iff_not, Bool.not_eq_true', Bool.not_eq_false', Bool.not_eq_eq_eq_not, Bool.not_true, Bool.not_false, Int.not_lt, Int.not_le] at hb2)
   refine GW_skip ?_
   refine GW_seq ?_
   refine GW_seq ?_
   refine GW_region ?_
   refine GL_rd (wn_none rfl) rfl (rd_field rfl rfl fa25_1 _ rfl) ?_
   refine GL_rd (wn_none rfl) rfl (rd_load rfl rfl Tryz.underlying3 rfl ((cell_of_cells (hp.get 0 rfl) _).trans rfl)) ?_
   refine GL_rd (wn_none rfl) rfl (rd_bin rfl rfl rfl bo_lss) ?_
   refine GL_rd (v := .bool _) (wn_none rfl) rfl (rd_move rfl rfl) ?_
   refine GL_split (t := 20) (b := _) rfl ?_ ?_
   ·intro hb3; (try simp only [decide_eq_true_eq, decide_eq_false_iff_not, Bool.not_eq_true', Bool.not_eq_false', Bool.not_eq_eq_eq_not, Bool.not_true, Bool.not_false, Int.not_lt, Int.not_le] at hb3)
    refine GL_pass (nw_off rfl rfl rfl rfl rfl) rfl ?_
    refine GL_pass (nw_off rfl rfl rfl rfl rfl) rfl ?_
    refine GL_pass (nw_off rfl rfl rfl rfl rfl) rfl ?_
    refine GL_rd (v := .bool _) (wn_none rfl) rfl (rd_pickT rfl rfl rfl) ?_
    refine GL_nil ?_
    refine GW_true rfl ?_
    refine GW_seq ?_
    refine GW_region ?_
    refine GL_rd (v := .int _ _) (wn_none rfl) rfl (rd_assign rfl rfl) ?_
    refine GL_nil ?_
    refine GW_ret ?_
    have eh : buHd b = 2 := by rw [buHd, if_neg (by omega), if_pos (by omega)]
    exact ⟨_, res1 Tryz.results12 (rv_tmp (v := .int _ _) rfl rfl), by rw [buK_hd (by rw [eh]; decide), eh], hp.mods⟩
   ·intro hb3; (try simp only [decide_eq_true_eq, decide_eq_false_iff_not, Bool.not_eq_true', Bool.not_eq_false', Bool.not_eq_eq_eq_not, Bool.not_true, Bool.not_false, Int.not_lt, Int.not_le] at hb3)
    refine GL_rd (wn_on rfl rfl rfl rfl) rfl (rd_field rfl rfl fa25_1 _ rfl) ?_
    refine GL_rd (wn_on rfl rfl rfl rfl) rfl (rd_load rfl rfl Tryz.underlying3 rfl ((cell_of_cells (hp.get 0 rfl) _).trans rfl)) ?_
    refine GL_rd (wn_on rfl rfl rfl rfl) rfl (rd_bin rfl rfl rfl bo_gtr) ?_
    refine GL_rd (v := .bool _) (wn_none rfl) rfl (rd_pickF rfl rfl rfl) ?_
    refine GL_nil ?_
    refine GW_cond rfl (fun hb4 => ?_) (fun hb4 => ?_)
    ·(try simp only [decide_eq_true_eq, decide_eq_false_iff_not, Bool.not_eq_true', Bool.not_eq_false', Bool.not_eq_eq_eq_not, Bool.not_true, Bool.not_false, Int.not_lt, Int.not_le] at hb4)
     refine GW_seq ?_
     refine GW_region ?_
     refine GL_rd (v := .int _ _) (wn_none rfl) rfl (rd_assign rfl rfl) ?_
     refine GL_nil ?_
     refine GW_ret ?_
     have eh : buHd b = 2 := by rw [buHd, if_neg (by omega), if_pos (by omega)]
     exact ⟨_, res1 Tryz.results12 (rv_tmp (v := .int _ _) rfl rfl), by rw [buK_hd (by rw [eh]; decide), eh], hp.mods⟩
    ·(try simp only [decide_eq_true_eq, decide_eq_false_iff_not, Bool.not_eq_true', Bool.not_eq_false', Bool.not_eq_eq_eq_not, Bool.not_true, Bool.not_false, Int.not_lt, Int.not_le] at hb4)
     refine GW_skip ?_
     refine GW_seq ?_
     refine GW_seq ?_
     refine GW_region ?_
     refine GL_rd (wn_none rfl) rfl (rd_field rfl rfl fa25_2 _ rfl) ?_
     refine GL_rd (wn_none rfl) rfl (rd_load rfl rfl Tryz.underlying9 rfl ((cell_of_cells (hp.get 0 rfl) _).trans rfl)) ?_
     refine GL_rd (wn_none rfl) rfl (rd_lenS rfl rfl Tryz.underlying9) ?_
     refine GL_rd (wn_none rfl) rfl (rd_bin rfl rfl rfl bo_gtr) ?_
     refine GL_nil ?_
     refine GW_cond rfl (fun hb5 => ?_) (fun hb5 => ?_)
     ·(try simp only [decide_eq_true_eq, decide_eq_false_iff_not, Bool.not_eq_true', Bool.not_eq_false', Bool.not_eq_eq_eq_not, Bool.not_true, Bool.not_false, Int.not_lt, Int.not_le] at hb5)
      refine GW_seq ?_
      refine GW_region ?_
      refine GL_rd (v := .int _ _) (wn_none rfl) rfl (rd_assign rfl rfl) ?_
      refine GL_nil ?_
      refine GW_ret ?_
      have eh : buHd b = 15 := by rw [buHd, if_neg (by omega), if_neg (by omega), if_pos (by omega)]
      exact ⟨_, res1 Tryz.results12 (rv_tmp (v := .int _ _) rfl rfl), by rw [buK_hd (by rw [eh]; decide), eh], hp.mods⟩
     ·(try simp only [decide_eq_true_eq, decide_eq_false_iff_not, Bool.not_eq_true', Bool.not_eq_false', Bool.not_eq_eq_eq_not, Bool.not_true, Bool.not_false, Int.not_lt, Int.not_le] at hb5)
      refine GW_skip ?_
      refine GW_seq ?_
      refine GW_seq ?_
      refine GW_region ?_
      refine GL_rd (wn_none rfl) rfl (rd_field rfl rfl fa25_3 _ rfl) ?_
      refine GL_rd (v := .slice _ _ _) (wn_none rfl) rfl (rd_load rfl rfl Tryz.underlying22 rfl ((cell_of_cells (hp.get 0 rfl) _).trans rfl)) ?_
      refine GL_rd (wn_none rfl) rfl (rd_len rfl rfl Tryz.underlying22) ?_
      refine GL_rd (wn_none rfl) rfl (rd_bin rfl rfl rfl bo_lss) ?_
      refine GL_rd (v := .bool _) (wn_none rfl) rfl (rd_move rfl rfl) ?_
      refine GL_split (t := 33) (b := _) rfl ?_ ?_
      ·intro hb6; (try simp only [decide_eq_true_eq, decide_eq_false_iff_not, Bool.not_eq_true', Bool.not_eq_false', Bool.not_eq_eq_eq_not, Bool.not_true, Bool.not_false, Int.not_lt, Int.not_le] at hb6)
       refine GL_pass (nw_off rfl rfl rfl rfl rfl) rfl ?_
       refine GL_pass (nw_off rfl rfl rfl rfl rfl) rfl ?_
       refine GL_pass (nw_off rfl rfl rfl rfl rfl) rfl ?_
       refine GL_pass (nw_off rfl rfl rfl rfl rfl) rfl ?_
       refine GL_rd (v := .bool _) (wn_none rfl) rfl (rd_pickT rfl rfl rfl) ?_
       refine GL_nil ?_
       refine GW_true rfl ?_
       refine GW_seq ?_
       refine GW_region ?_
       refine GL_rd (v := .int _ _) (wn_none rfl) rfl (rd_assign rfl rfl) ?_
       refine GL_nil ?_
       refine GW_ret ?_
       have eh : buHd b = 1 := by rw [buHd, if_neg (by omega), if_neg (by omega), if_neg (by omega), if_pos (by omega)]
       exact ⟨_, res1 Tryz.results12 (rv_tmp (v := .int _ _) rfl rfl), by rw [buK_hd (by rw [eh]; decide), eh], hp.mods⟩
      ·intro hb6; (try simp only [decide_eq_true_eq, decide_eq_false_iff_not, Bool.not_eq_true', Bool.not_eq_false', Bool.not_eq_eq_eq_not, Bool.not_true, Bool.not_false, Int.not_lt, Int.not_le] at hb6)
       refine GL_rd (wn_on rfl rfl rfl rfl) rfl (rd_field rfl rfl fa25_3 _ rfl) ?_
       refine GL_rd (v := .slice _ _ _) (wn_on rfl rfl rfl rfl) rfl (rd_load rfl rfl Tryz.underlying22 rfl ((cell_of_cells (hp.get 0 rfl) _).trans rfl)) ?_
       refine GL_rd (wn_on rfl rfl rfl rfl) rfl (rd_len rfl rfl Tryz.underlying22) ?_
       refine GL_rd (wn_on rfl rfl rfl rfl) rfl (rd_bin rfl rfl rfl bo_gtr) ?_
       refine GL_rd (v := .bool _) (wn_none rfl) rfl (rd_pickF rfl rfl rfl) ?_
       refine GL_nil ?_
       refine GW_cond rfl (fun hb7 => ?_) (fun hb7 => ?_)
       ·(try simp only [decide_eq_true_eq, decide_eq_false_iff_not, Bool.not_eq_true', Bool.not_eq_false', Bool.not_eq_eq_eq_not, Bool.not_true, Bool.not_false, Int.not_lt, Int.not_le] at hb7)
        refine GW_seq ?_
        refine GW_region ?_
        refine GL_rd (v := .int _ _) (wn_none rfl) rfl (rd_assign rfl rfl) ?_
        refine GL_nil ?_
        refine GW_ret ?_
        have eh : buHd b = 1 := by rw [buHd, if_neg (by omega), if_neg (by omega), if_neg (by omega), if_pos (by omega)]
        exact ⟨_, res1 Tryz.results12 (rv_tmp (v := .int _ _) rfl rfl), by rw [buK_hd (by rw [eh]; decide), eh], hp.mods⟩
       ·(try simp only [decide_eq_true_eq, decide_eq_false_iff_not, Bool.not_eq_true', Bool.not_eq_false', Bool.not_eq_eq_eq_not, Bool.not_true, Bool.not_false, Int.not_lt, Int.not_le] at hb7)
        refine GW_skip ?_
        refine GW_seq ?_
        refine GW_seq ?_
        refine GW_region ?_
        refine GL_rd (wn_none rfl) rfl (rd_field rfl rfl fa25_4 _ rfl) ?_
        refine GL_rd (v := .slice _ _ _) (wn_none rfl) rfl (rd_load rfl rfl Tryz.underlying23 rfl ((cell_of_cells (hp.get 0 rfl) _).trans rfl)) ?_
        refine GL_rd (wn_none rfl) rfl (rd_len rfl rfl Tryz.underlying23) ?_
        refine GL_rd (wn_none rfl) rfl (rd_bin rfl rfl rfl bo_gtr) ?_
        refine GL_nil ?_
        refine GW_cond rfl (fun hb8 => ?_) (fun hb8 => ?_)
        ·(try simp only [decide_eq_true_eq, decide_eq_false_iff_not, Bool.not_eq_true', Bool.not_eq_false', Bool.not_eq_eq_eq_not, Bool.not_true, Bool.not_false, Int.not_lt, Int.not_le] at hb8)
         refine GW_seq ?_
         refine GW_region ?_
         refine GL_rd (v := .int _ _) (wn_none rfl) rfl (rd_assign rfl rfl) ?_
         refine GL_nil ?_
         refine GW_ret ?_
         have eh : buHd b = 7 := by rw [buHd, if_neg (by omega), if_neg (by omega), if_neg (by omega), if_neg (by omega), if_pos (by omega)]
         exact ⟨_, res1 Tryz.results12 (rv_tmp (v := .int _ _) rfl rfl), by rw [buK_hd (by rw [eh]; decide), eh], hp.mods⟩
        ·(try simp only [decide_eq_true_eq, decide_eq_false_iff_not, Bool.not_eq_true', Bool.not_eq_false', Bool.not_eq_eq_eq_not, Bool.not_true, Bool.not_false, Int.not_lt, Int.not_le] at hb8)
         have eh : buHd b = 0 := buHd_ok.2 (by omega)
         refine GW_skip ?_
         refine GW_seq ?_
         refine GW_seq ?_
         refine GW_region ?_
         refine GL_rd (v := .int _ _) (wn_none rfl) rfl (rd_assign rfl rfl) ?_
         refine GL_nil ?_
         refine GW_block ?_
         refine GW_loop ?_
         refine Lp_ind (α := Nat × Option Addr) (fun a_0 f_0 w' => match a_0 with | (i, At) => ∃ fz, f_0 = (upd (upd fz 3 (.int .i64 (i : Int))) 1 (.pointer (some ⟨g, 0, none⟩))) ∧ Hp w0 [] w' [cells g 25 (buC b (.slice At b.tx.length ct) (.slice Aa b.au.length ca))] ∧ (i ≤ b.tx.length) ∧ (Sl w0 (.slice At b.tx.length ct) 1 b.tx.length (b.tx.map Prod.fst)) ∧ (fbF txKs (b.tx.take i) = 0)) (fun a_0 => match a_0 with | (i, At) => b.tx.length - i) ?_ (0, At) _ _ ?_
         ·rintro ⟨i, At⟩ f wz ⟨fz, rfl, hp, hi0, htx, hz⟩ ihL0
          refine Lp_round ?_
          refine GW_seq ?_
          refine GW_seq ?_
          refine GW_region ?_
          refine GL_rd (v := .int _ _) (wn_none rfl) rfl (rd_move rfl rfl) ?_
          refine GL_rd (wn_none rfl) rfl (rd_field rfl rfl fa25_3 _ rfl) ?_
          refine GL_rd (v := .slice _ _ _) (wn_none rfl) rfl (rd_load rfl rfl Tryz.underlying22 rfl ((cell_of_cells (hp.get 0 rfl) _).trans rfl)) ?_
          refine GL_rd (wn_none rfl) rfl (rd_len rfl rfl Tryz.underlying22) ?_
          refine GL_rd (wn_none rfl) rfl (rd_bin rfl rfl rfl bo_lss) ?_
          refine GL_nil ?_
          refine GW_cond rfl (fun hb9 => ?_) (fun hb9 => ?_)
          ·(try simp only [decide_eq_true_eq, decide_eq_false_iff_not, Bool.not_eq_true', Bool.not_eq_false', Bool.not_eq_eq_eq_not, Bool.not_true, Bool.not_false, Int.not_lt, Int.not_le] at hb9)
           obtain ⟨gT, bT, rfl⟩ := htx.addr (by rw [List.length_map]; omega)
           have hxm := getD_inL (l := b.tx) (i := i) (by omega)
           obtain ⟨Ax, cx, hsh⟩ := sl_shape (hB.txs _ hxm)
           have hxb := hSt _ hxm
           refine GW_skip ?_
           refine GW_seq ?_
           refine GW_block ?_
           refine GW_seq ?_
           refine GW_region ?_
           refine GL_rd (wn_none rfl) rfl (rd_field rfl rfl fa25_3 _ rfl) ?_
           refine GL_rd (v := .slice _ _ _) (wn_none rfl) rfl (rd_load rfl rfl Tryz.underlying22 rfl ((cell_of_cells (hp.get 0 rfl) _).trans rfl)) ?_
           refine GL_rd (v := .int _ _) (wn_none rfl) rfl (rd_move rfl rfl) ?_
           refine GL_rd (wn_none rfl) rfl (rd_indexS (j := i) rfl rfl rfl Tryz.underlying22 ts35 rfl (by omega) _ rfl) ?_
           refine GL_rd (v := .slice _ _ _) (wn_none rfl) rfl (rd_load rfl rfl Tryz.underlying35 rfl ((htx.keep hp.mod).get _ _ (by rw [Nat.mul_one]; exact (fstL_at (L := b.tx) (i := i) (by omega)).trans (congrArg some hsh)))) ?_
           refine GL_call (wn_none rfl) rfl rfl (ref_tCheck _ (b.tx.getD i default).2 _ (by have h := (hB.txs _ hxm).keep hp.mod; rw [hsh] at h; exact h)) rfl ?_
           rintro _ w ⟨rfl, hk⟩
           have hp := hp.comp hk
           refine GL_rd (v := .int .i64 (txKs (b.tx.getD i default))) (wn_none rfl) rfl (rd_assign rfl rfl) ?_
           refine GL_nil ?_
           refine GW_seq ?_
           refine GW_region ?_
           refine GL_rd (v := .int .i64 (txKs (b.tx.getD i default))) (wn_none rfl) rfl (rd_move rfl rfl) ?_
           refine GL_rd (wn_none rfl) rfl (rd_bin rfl rfl rfl bo_neq) ?_
           refine GL_nil ?_
           refine GW_cond rfl (fun hb10 => ?_) (fun hb10 => ?_)
           ·(try simp only [decide_eq_true_eq, decide_eq_false_iff_not, Bool.not_eq_true', Bool.not_eq_false', Bool.not_eq_eq_eq_not, Bool.not_true, Bool.not_false, Int.not_lt, Int.not_le] at hb10)
            have hne : ¬ txKs (b.tx.getD i default) = 0 := hb10
            refine GW_seq ?_
            refine GW_region ?_
            refine GL_rd (v := .int .i64 (txKs (b.tx.getD i default))) (wn_none rfl) rfl (rd_move rfl rfl) ?_
            refine GL_rd (v := .int .i64 (txKs (b.tx.getD i default))) (wn_none rfl) rfl (rd_assign rfl rfl) ?_
            refine GL_nil ?_
            refine GW_ret ?_
            have ef := fbF_stop (f := txKs) (l := b.tx) (i := i) (by omega) hz hne
            exact ⟨_, res1 Tryz.results12 (rv_tmp (v := .int .i64 (txKs (b.tx.getD i default))) rfl rfl), by rw [buK_tx eh (by rw [ef]; exact hne), ef], hp.mods⟩
           ·(try simp only [decide_eq_true_eq, decide_eq_false_iff_not, Bool.not_eq_true', Bool.not_eq_false', Bool.not_eq_eq_eq_not, Bool.not_true, Bool.not_false, Int.not_lt, Int.not_le] at hb10)
            have hnz : txKs (b.tx.getD i default) = 0 := hb10
            refine GW_skip ?_
            refine GW_region ?_
            refine GL_rd (v := .int _ _) (wn_none rfl) rfl (rd_move rfl rfl) ?_
            refine GL_rd (wn_none rfl) rfl (rd_bin rfl rfl rfl (bo_add64 (by omega))) ?_
            refine GL_rd (v := .int _ _) (wn_none rfl) rfl (rd_assign rfl rfl) ?_
            refine GL_nil ?_
            have hp := ((hp.front 0 rfl).take 1)
            exact ihL0 (i + 1, _) _ _ (by simp only []; omega) ⟨_, slots2 rfl rfl, hp, by omega, htx, fbF_next (by omega) hz hnz⟩
          ·(try simp only [decide_eq_true_eq, decide_eq_false_iff_not, Bool.not_eq_true', Bool.not_eq_false', Bool.not_eq_eq_eq_not, Bool.not_true, Bool.not_false, Int.not_lt, Int.not_le] at hb9)
           have hil : i = b.tx.length := by omega
           have hzt : fbF txKs b.tx = 0 := by rw [hil, List.take_length] at hz; exact hz
           refine GW_exit ?_
           refine GW_seq ?_
           refine GW_seq ?_
           refine GW_region ?_
           refine GL_rd (v := .int _ _) (wn_none rfl) rfl (rd_assign rfl rfl) ?_
           refine GL_nil ?_
           refine GW_block ?_
           refine GW_loop ?_
           refine Lp_ind (α := Nat × Option Addr) (fun a_0 f_0 w' => match a_0 with | (i, Aa) => ∃ fz, f_0 = (upd (upd fz 5 (.int .i64 (i : Int))) 1 (.pointer (some ⟨g, 0, none⟩))) ∧ Hp w0 [] w' [cells g 25 (buC b (.slice At b.tx.length ct) (.slice Aa b.au.length ca))] ∧ (i ≤ b.au.length) ∧ (Sl w0 (.slice Aa b.au.length ca) 100 b.au.length (b.au.flatMap recC)) ∧ (fbF checkR (b.au.take i) = 0)) (fun a_0 => match a_0 with | (i, Aa) => b.au.length - i) ?_ (0, Aa) _ _ ?_
           ·rintro ⟨i, Aa⟩ f wz ⟨fz, rfl, hp, hi0, hau, hz⟩ ihL1
            refine Lp_round ?_
            refine GW_seq ?_
            refine GW_seq ?_
            refine GW_region ?_
            refine GL_rd (v := .int _ _) (wn_none rfl) rfl (rd_move rfl rfl) ?_
            refine GL_rd (wn_none rfl) rfl (rd_field rfl rfl fa25_4 _ rfl) ?_
            refine GL_rd (v := .slice _ _ _) (wn_none rfl) rfl (rd_load rfl rfl Tryz.underlying23 rfl ((cell_of_cells (hp.get 0 rfl) _).trans rfl)) ?_
            refine GL_rd (wn_none rfl) rfl (rd_len rfl rfl Tryz.underlying23) ?_
            refine GL_rd (wn_none rfl) rfl (rd_bin rfl rfl rfl bo_lss) ?_
            refine GL_nil ?_
            refine GW_cond rfl (fun hb11 => ?_) (fun hb11 => ?_)
            ·(try simp only [decide_eq_true_eq, decide_eq_false_iff_not, Bool.not_eq_true', Bool.not_eq_false', Bool.not_eq_eq_eq_not, Bool.not_true, Bool.not_false, Int.not_lt, Int.not_le] at hb11)
             obtain ⟨gU, bU, rfl⟩ := hau.addr (by rw [flat_length recC_len]; omega)
             have hrz := hSa _ (recAt_mem (l := b.au) (i := i) (by omega))
             refine GW_skip ?_
             refine GW_seq ?_
             refine GW_block ?_
             refine GW_seq ?_
             refine GW_region ?_
             refine GL_rd (wn_none rfl) rfl (rd_field rfl rfl fa25_4 _ rfl) ?_
             refine GL_rd (v := .slice _ _ _) (wn_none rfl) rfl (rd_load rfl rfl Tryz.underlying23 rfl ((cell_of_cells (hp.get 0 rfl) _).trans rfl)) ?_
             refine GL_rd (v := .int _ _) (wn_none rfl) rfl (rd_move rfl rfl) ?_
             refine GL_rd (wn_none rfl) rfl (rd_indexS (j := i) rfl rfl rfl Tryz.underlying23 ts46 rfl (by omega) _ rfl) ?_
             refine GL_rd (wn_none rfl) rfl (rd_loadN (L := recC _) rfl rfl Tryz.underlying46 rfl ts46 (recC_len _) (fun jq u hj => Sl.recE (hau.keep hp.mod) i (by first | omega | assumption | exact Nat.lt_succ_self _) hj)) ?_
             refine GL_call (wn_none rfl) rfl rfl (ref_audCheck (recAt b.au i) _ hrz) rfl ?_
             rintro _ w ⟨rfl, hk⟩
             have hp := hp.comp hk
             refine GL_rd (v := .int _ _) (wn_none rfl) rfl (rd_assign rfl rfl) ?_
             refine GL_nil ?_
             refine GW_seq ?_
             refine GW_region ?_
             refine GL_rd (v := .int _ _) (wn_none rfl) rfl (rd_move rfl rfl) ?_
             refine GL_rd (wn_none rfl) rfl (rd_bin rfl rfl rfl bo_neq) ?_
             refine GL_nil ?_
             refine GW_cond rfl (fun hb12 => ?_) (fun hb12 => ?_)
             ·(try simp only [decide_eq_true_eq, decide_eq_false_iff_not, Bool.not_eq_true', Bool.not_eq_false', Bool.not_eq_eq_eq_not, Bool.not_true, Bool.not_false, Int.not_lt, Int.not_le] at hb12)
              have hne : ¬ checkR (recAt b.au i) = 0 := hb12
              refine GW_seq ?_
              refine GW_region ?_
              refine GL_rd (v := .int _ _) (wn_none rfl) rfl (rd_move rfl rfl) ?_
              refine GL_rd (v := .int _ _) (wn_none rfl) rfl (rd_assign rfl rfl) ?_
              refine GL_nil ?_
              refine GW_ret ?_
              have ef := fbF_stop (f := checkR) (l := b.au) (i := i) (by omega) hz hne
              exact ⟨_, res1 Tryz.results12 (rv_tmp (v := .int _ _) rfl rfl), by rw [buK_au eh hzt, ef]; rfl, hp.mods⟩
             ·(try simp only [decide_eq_true_eq, decide_eq_false_iff_not, Bool.not_eq_true', Bool.not_eq_false', Bool.not_eq_eq_eq_not, Bool.not_true, Bool.not_false, Int.not_lt, Int.not_le] at hb12)
              have hnz : checkR (recAt b.au i) = 0 := hb12
              refine GW_skip ?_
              refine GW_region ?_
              refine GL_rd (v := .int _ _) (wn_none rfl) rfl (rd_move rfl rfl) ?_
              refine GL_rd (wn_none rfl) rfl (rd_bin rfl rfl rfl (bo_add64 (by omega))) ?_
              refine GL_rd (v := .int _ _) (wn_none rfl) rfl (rd_assign rfl rfl) ?_
              refine GL_nil ?_
              have hp := ((hp.front 0 rfl).take 1)
              exact ihL1 (i + 1, _) _ _ (by simp only []; omega) ⟨_, slots2 rfl rfl, hp, by omega, hau, fbF_next (by omega) hz hnz⟩
            ·(try simp only [decide_eq_true_eq, decide_eq_false_iff_not, Bool.not_eq_true', Bool.not_eq_false', Bool.not_eq_eq_eq_not, Bool.not_true, Bool.not_false, Int.not_lt, Int.not_le] at hb11)
             have hil : i = b.au.length := by omega
             rw [hil, List.take_length] at hz
             refine GW_exit ?_
             refine GW_seq ?_
             refine GW_region ?_
             refine GL_rd (v := .int _ _) (wn_none rfl) rfl (rd_assign rfl rfl) ?_
             refine GL_nil ?_
             refine GW_ret ?_
             exact ⟨_, res1 Tryz.results12 (rv_tmp (v := .int _ _) rfl rfl), by rw [buK_au eh hzt, hz], hp.mods⟩
           ·refine ⟨_, slots2 rfl rfl, hp, Nat.zero_le _, hau, rfl⟩
         ·refine ⟨_, slots2 rfl rfl, hp, Nat.zero_le _, htx, rfl⟩
set_option maxHeartbeats 1000000 in
theorem ref_buAddress (b : Bu) (tv av : Value) (w0 : World) (hB : BuAt b tv av w0) (hS : BuSm b) : Does Tryz.prog 14 #[.agg ⟨buC b tv av⟩] w0 fun v w' => v = .agg ⟨bys (buAdr b).1⟩ ∧ Hp w0 [] w' [] := by
 have hS0 := hS
 obtain ⟨At, ct, rfl⟩ := sl_shape hB.tx
 obtain ⟨Aa, ca, rfl⟩ := sl_shape hB.au
 have htx := hB.tx
 have hau := hB.au
 obtain ⟨hSc, hSn, hSl, hSt, hSk, hSa⟩ := hS
 refine does_of (l := [.agg ⟨(buC b (.slice At b.tx.length ct) (.slice Aa b.au.length ca))⟩]) Tryz.func14 (by kernel_rfl) rfl Tryz.ntmps14 rfl rfl (by kernel_rfl) ?_
 have hp := Hp.refl w0 []
 refine GW_seq ?_
 refine GW_region ?_
 refine GL_box (wn_none rfl) rfl rfl rfl rfl hp ?_
 intro g w hp
 refine GL_alloc (wn_none rfl) rfl rfl tz30 rfl hp ?_
 intro g2 w hp
 refine GL_nil ?_
 refine GW_seq ?_
 refine GW_region ?_
 refine GL_rd (v := .slice _ _ _) (wn_none rfl) rfl (rd_assign rfl rfl) ?_
 refine GL_nil ?_
 refine GW_seq ?_
 refine GW_seq ?_
 refine GW_region ?_
 refine GL_rd (v := .int _ _) (wn_none rfl) rfl (rd_assign rfl rfl) ?_
 refine GL_nil ?_
 refine GW_block ?_
 refine GW_loop ?_
 refine Lp_ind (α := Nat × Option Addr × Value) (fun a_0 f_0 w' => match a_0 with | (i, At, v) => ∃ fz, f_0 = (upd (upd (upd (upd fz 4 (.int .i64 (i : Int))) 3 (v)) 1 (.pointer (some ⟨g, 0, none⟩))) 2 (.pointer (some ⟨g2, 0, none⟩))) ∧ Hp w0 [] w' [.row 30 32 v i ((buAds (b.tx.take i)).flatMap adC), cells g2 30 (List.replicate 32 (.int .u8 0)), cells g 25 (buC b (.slice At b.tx.length ct) (.slice Aa b.au.length ca))] ∧ (i ≤ b.tx.length) ∧ (Sl w0 (.slice At b.tx.length ct) 1 b.tx.length (b.tx.map Prod.fst))) (fun a_0 => match a_0 with | (i, At, v) => b.tx.length - i) ?_ (0, At, .slice none 0 0) _ _ ?_
 ·rintro ⟨i, At, v⟩ f wz ⟨fz, rfl, hp, hi0, htx⟩ ihL0
  refine Lp_round ?_
  refine GW_seq ?_
  refine GW_seq ?_
  refine GW_region ?_
  refine GL_rd (v := .int _ _) (wn_none rfl) rfl (rd_move rfl rfl) ?_
  refine GL_rd (wn_none rfl) rfl (rd_field rfl rfl fa25_3 _ rfl) ?_
  refine GL_rd (v := .slice _ _ _) (wn_none rfl) rfl (rd_load rfl rfl Tryz.underlying22 rfl ((cell_of_cells (hp.get 2 rfl) _).trans rfl)) ?_
  refine GL_rd (wn_none rfl) rfl (rd_len rfl rfl Tryz.underlying22) ?_
  refine GL_rd (wn_none rfl) rfl (rd_bin rfl rfl rfl bo_lss) ?_
  refine GL_nil ?_
  refine GW_cond rfl (fun hb => ?_) (fun hb => ?_)
  ·(try simp only [decide_eq_true_eq, decide_eq_false_iff_not, Bool.not_eq_true', Bool.not_eq_false', Bool.not_eq_eq_eq_not, Bool.not_true, Bool.not_false, Int.not_lt, Int.not_le] at hb)
   obtain ⟨gT, bT, rfl⟩ := htx.addr (by rw [List.length_map]; omega)
   have hxm := getD_inL (l := b.tx) (i := i) (by omega)
   obtain ⟨Ax, cx, hsh⟩ := sl_shape (hB.txs _ hxm)
   have hxb := hSt _ hxm
   refine GW_skip ?_
   refine GW_seq ?_
   refine GW_block ?_
   refine GW_region ?_
   refine GL_rd (v := v) (wn_none rfl) rfl (rd_move rfl rfl) ?_
   refine GL_rd (wn_none rfl) rfl (rd_field rfl rfl fa25_3 _ rfl) ?_
   refine GL_rd (v := .slice _ _ _) (wn_none rfl) rfl (rd_load rfl rfl Tryz.underlying22 rfl ((cell_of_cells (hp.get 2 rfl) _).trans rfl)) ?_
   refine GL_rd (v := .int _ _) (wn_none rfl) rfl (rd_move rfl rfl) ?_
   refine GL_rd (wn_none rfl) rfl (rd_indexS (j := i) rfl rfl rfl Tryz.underlying22 ts35 rfl (by omega) _ rfl) ?_
   refine GL_rd (v := .slice _ _ _) (wn_none rfl) rfl (rd_load rfl rfl Tryz.underlying35 rfl ((htx.keep hp.mod).get _ _ (by rw [Nat.mul_one]; exact (fstL_at (L := b.tx) (i := i) (by omega)).trans (congrArg some hsh)))) ?_
   refine GL_call (wn_none rfl) rfl rfl (ref_tText _ (b.tx.getD i default).2 _ (by have h := (hB.txs _ hxm).keep hp.mod; rw [hsh] at h; exact h) (by omega)) rfl ?_
   rintro _ w ⟨rfl, hk⟩
   have hp := hp.comp hk
   refine GL_lit1 (L := (bys (txOf (b.tx.getD i default).2).1)) (wn_none rfl) rfl rfl rfl rfl Tryz.underlying50 ts30 tz30 (by kernel_rfl) (by rw [bys_length]; exact (txOf _).2) hp ?_
   intro g3 w hp
   refine GL_append (i := 1) (wn_none rfl) rfl rfl rfl rfl Tryz.underlying50 ti30 rfl (by decide) hp rfl (Sl.row (hp.get 0 rfl)) (bys_one _) (by omega) (by omega) ?_
   intro v w hp
   refine GL_rd (v := v) (wn_none rfl) rfl (rd_assign rfl rfl) ?_
   refine GL_nil ?_
   refine GW_region ?_
   refine GL_rd (v := .int _ _) (wn_none rfl) rfl (rd_move rfl rfl) ?_
   refine GL_rd (wn_none rfl) rfl (rd_bin rfl rfl rfl (bo_add64 (by omega))) ?_
   refine GL_rd (v := .int _ _) (wn_none rfl) rfl (rd_assign rfl rfl) ?_
   refine GL_nil ?_
   have hp := ((((hp.front 3 rfl).front 3 rfl).front 3 rfl).take 3)
   have hp := hp.cast (show _ = [.row 30 32 v (i + 1) ((buAds (b.tx.take (i + 1))).flatMap adC), cells g2 30 (List.replicate 32 (.int .u8 0)), cells g 25 (buC b (.slice (some ⟨gT, bT, none⟩) b.tx.length ct) (.slice Aa b.au.length ca))] by rw [buAds_snoc (by omega), List.flatMap_append, List.flatMap_singleton]; rfl)
   exact ihL0 (i + 1, _, _) _ _ (by simp only []; omega) ⟨_, slots4 rfl rfl rfl rfl, hp, by omega, htx⟩
  ·(try simp only [decide_eq_true_eq, decide_eq_false_iff_not, Bool.not_eq_true', Bool.not_eq_false', Bool.not_eq_eq_eq_not, Bool.not_true, Bool.not_false, Int.not_lt, Int.not_le] at hb)
   have hil : i = b.tx.length := by omega
   rw [hil, List.take_length] at hp
   refine GW_exit ?_
   refine GW_seq ?_
   refine GW_region ?_
   refine GL_rd (wn_none rfl) rfl (rd_field rfl rfl fa25_0 _ rfl) ?_
   refine GL_rd (wn_none rfl) rfl (rd_load rfl rfl Tryz.underlying9 rfl ((cell_of_cells (hp.get 2 rfl) _).trans rfl)) ?_
   refine GL_rd (wn_none rfl) rfl (rd_field rfl rfl fa25_1 _ rfl) ?_
   refine GL_rd (wn_none rfl) rfl (rd_load rfl rfl Tryz.underlying3 rfl ((cell_of_cells (hp.get 2 rfl) _).trans rfl)) ?_
   refine GL_rd (wn_none rfl) rfl (rd_field rfl rfl fa25_2 _ rfl) ?_
   refine GL_rd (wn_none rfl) rfl (rd_load rfl rfl Tryz.underlying9 rfl ((cell_of_cells (hp.get 2 rfl) _).trans rfl)) ?_
   refine GL_rd (v := v) (wn_none rfl) rfl (rd_move rfl rfl) ?_
   refine GL_call (wn_none rfl) rfl rfl (ref_bAddress b.cls b.note b.made _ b.tx.length (buAds b.tx) _ (Sl.row (hp.get 0 rfl)) ⟨hSc, hSn⟩ hSl) rfl ?_
   rintro _ w ⟨rfl, hk⟩
   have hp := hp.comp hk
   refine GL_store (i := 1) (wn_none rfl) rfl rfl rfl rfl ts30 rfl (by rw [bys_length]; exact (buAdr b).2) (bys_one _) hp rfl (Nat.le_of_ble_eq_true rfl) (splice_all _ _ (by rw [bys_length]; exact (buAdr b).2.trans rfl)) ?_
   intro w hp
   refine GL_nil ?_
   refine GW_ret ?_
   exact ⟨_, res1 Tryz.results14 (rv_cell rfl rfl Tryz.underlying30 rfl ts30 (by rw [bys_length]; exact (buAdr b).2) (hp.get 1 rfl)), rfl, hp.mods⟩
 ·have hp := hp.nilRow 30 32
  refine ⟨_, slots4 rfl rfl rfl rfl, hp, Nat.zero_le _, htx⟩
set_option maxHeartbeats 1000000 in
theorem ref_buSeal (b : Bu) (tv av : Value) (w0 : World) (hB : BuAt b tv av w0) (hS : BuSm b) : Does Tryz.prog 8 #[.agg ⟨buC b tv av⟩] w0 fun v w' => v = .tuple #[.agg ⟨bys (buSeal b).1⟩, .int .i64 (buK b)] ∧ Hp w0 [] w' [] := by
 have hS0 := hS
 obtain ⟨At, ct, rfl⟩ := sl_shape hB.tx
 obtain ⟨Aa, ca, rfl⟩ := sl_shape hB.au
 have htx := hB.tx
 have hau := hB.au
 obtain ⟨hSc, hSn, hSl, hSt, hSk, hSa⟩ := hS
 refine does_of (l := [.agg ⟨(buC b (.slice At b.tx.length ct) (.slice Aa b.au.length ca))⟩]) Tryz.func8 (by kernel_rfl) rfl Tryz.ntmps8 rfl rfl (by kernel_rfl) ?_
 have hp := Hp.refl w0 []
 refine GW_seq ?_
 refine GW_region ?_
 refine GL_box (wn_none rfl) rfl rfl rfl rfl hp ?_
 intro g w hp
 refine GL_alloc (wn_none rfl) rfl rfl tz30 rfl hp ?_
 intro g2 w hp
 refine GL_rd (v := .int _ _) (wn_none rfl) rfl (rd_assign rfl rfl) ?_
 refine GL_nil ?_
 refine GW_seq ?_
 refine GW_seq ?_
 refine GW_region ?_
 refine GL_rd (wn_none rfl) rfl (rd_loadC rfl rfl Tryz.underlying25 rfl ts25 (hp.get 1 rfl) (by first | (rw [bys_length]; first | exact a32_len _) | rfl | simp [bys_length, *])) ?_
 refine GL_call (wn_none rfl) rfl rfl (ref_buCheck b _ _ _ (hB.keep hp.mod) hS0) rfl ?_
 rintro _ w ⟨rfl, hk⟩
 have hp := hp.comp hk
 refine GL_rd (v := .int .i64 (buK b)) (wn_none rfl) rfl (rd_assign rfl rfl) ?_
 refine GL_nil ?_
 refine GW_seq ?_
 refine GW_region ?_
 refine GL_rd (v := .int .i64 (buK b)) (wn_none rfl) rfl (rd_move rfl rfl) ?_
 refine GL_rd (wn_none rfl) rfl (rd_bin rfl rfl rfl bo_neq) ?_
 refine GL_nil ?_
 refine GW_cond rfl (fun hb => ?_) (fun hb => ?_)
 ·(try simp only [decide_eq_true_eq, decide_eq_false_iff_not, Bool.not_eq_true', Bool.not_eq_false', Bool.not_eq_eq_eq_not, Bool.not_true, Bool.not_false, Int.not_lt, Int.not_le] at hb)
  have hc : ¬ buK b = 0 := hb
  refine GW_seq ?_
  refine GW_region ?_
  refine GL_rd (wn_none rfl) rfl (rd_buildA (L := List.replicate 32 (.int .u8 0)) rfl tz30 Tryz.underlying30 ts5 (by kernel_rfl)) ?_
  refine GL_rd (v := .int .i64 (buK b)) (wn_none rfl) rfl (rd_move rfl rfl) ?_
  refine GL_store (i := 0) (wn_none rfl) rfl rfl rfl rfl ts30 rfl List.length_replicate (by intro u hu; rw [List.eq_of_mem_replicate hu]; rfl) hp rfl (Nat.le_of_ble_eq_true rfl) (splice_all _ _ rfl) ?_
  intro w hp
  refine GL_rd (v := .int .i64 (buK b)) (wn_none rfl) rfl (rd_assign rfl rfl) ?_
  refine GL_nil ?_
  refine GW_ret ?_
  exact ⟨_, res2 Tryz.results8 (rv_cell rfl rfl Tryz.underlying30 rfl ts30 (by first | exact List.length_replicate | (rw [bys_length]; exact (buSeal _).2)) (hp.get 0 rfl)) (rv_tmp (v := .int .i64 (buK b)) rfl rfl), by rw [buSeal_no hc]; rfl, hp.mods⟩
 ·(try simp only [decide_eq_true_eq, decide_eq_false_iff_not, Bool.not_eq_true', Bool.not_eq_false', Bool.not_eq_eq_eq_not, Bool.not_true, Bool.not_false, Int.not_lt, Int.not_le] at hb)
  have hc : buK b = 0 := hb
  have hkd := buHd_ok.1 (buK_ok hc).1
  refine GW_skip ?_
  refine GW_seq ?_
  refine GW_region ?_
  refine GL_rd (wn_none rfl) rfl (rd_loadC rfl rfl Tryz.underlying25 rfl ts25 (hp.get 1 rfl) (by first | (rw [bys_length]; first | exact a32_len _) | rfl | simp [bys_length, *])) ?_
  refine GL_call (wn_none rfl) rfl rfl (ref_buAddress b _ _ _ (hB.keep hp.mod) hS0) rfl ?_
  rintro _ w ⟨rfl, hk⟩
  have hp := hp.comp hk
  have hp := hp.nilRow 5 1
  refine GL_call (wn_none rfl) rfl rfl (ref_behind3 _ _ [] (buAdr b) _ (.inl rfl) (Hp.oneR (hp.get 0 rfl)) (by decide)) rfl ?_
  intro vq w hk
  have hp := hp.turnAtMore 0 rfl hk
  obtain ⟨Aq, cq, rfl⟩ := row_shape (hp.get 0 rfl)
  refine GL_lit (L := [.slice Aq (buAdr b).1.length cq]) (wn_none rfl) rfl rfl Tryz.underlying22 ts35 tz35 rfl (by kernel_rfl) rfl rfl hp ?_
  intro g3 w hp
  refine GL_rd (v := .slice _ _ _) (wn_none rfl) rfl (rd_assign rfl rfl) ?_
  refine GL_nil ?_
  refine GW_seq ?_
  refine GW_region ?_
  refine GL_rd (v := .slice _ _ _) (wn_none rfl) rfl (rd_move rfl rfl) ?_
  refine GL_rd (wn_none rfl) rfl (rd_field rfl rfl fa25_3 _ rfl) ?_
  refine GL_rd (v := .slice _ _ _) (wn_none rfl) rfl (rd_load rfl rfl Tryz.underlying22 rfl ((cell_of_cells (hp.get 3 rfl) _).trans rfl)) ?_
  refine GL_append (i := 0) (wn_none rfl) rfl rfl rfl rfl Tryz.underlying22 ti35 rfl (by decide) hp rfl (htx.keep hp.mod) hB.one (by omega) (by omega) ?_
  intro v w hp
  refine GL_rd (v := v) (wn_none rfl) rfl (rd_assign rfl rfl) ?_
  refine GL_nil ?_
  refine GW_seq ?_
  refine GW_seq ?_
  refine GW_region ?_
  refine GL_rd (v := .int _ _) (wn_none rfl) rfl (rd_assign rfl rfl) ?_
  refine GL_nil ?_
  refine GW_block ?_
  refine GW_loop ?_
  refine Lp_ind (α := Nat × Option Addr × Nat × Value × List (Value × List UInt8)) (fun a_0 f_0 w' => match a_0 with | (i, Aa, n, v, Lp) => ∃ fz, f_0 = (upd (upd (upd (upd fz 6 (.int .i64 (i : Int))) 5 (v)) 1 (.pointer (some ⟨g, 0, none⟩))) 2 (.pointer (some ⟨g2, 0, none⟩))) ∧ Hp w0 [] w' [.row 35 1 v n (((.slice Aq (buAdr b).1.length cq, (buAdr b).1) :: (b.tx ++ Lp)).map Prod.fst), packL (rowsZ 5 Lp), .row 5 1 (.slice Aq (buAdr b).1.length cq) (buAdr b).1.length (bys (buAdr b).1), cells g2 30 (List.replicate 32 (.int .u8 0)), cells g 25 (buC b (.slice At b.tx.length ct) (.slice Aa b.au.length ca))] ∧ (i ≤ b.au.length) ∧ (Sl w0 (.slice Aa b.au.length ca) 100 b.au.length (b.au.flatMap recC)) ∧ (n = 1 + b.tx.length + i) ∧ (Lp.length = i) ∧ (Lp.map Prod.snd = (b.au.take i).map putB) ∧ (∀ x ∈ Lp, x.2.length ≤ 155)) (fun a_0 => match a_0 with | (i, Aa, n, v, Lp) => b.au.length - i) ?_ (0, Aa, 1 + b.tx.length, v, []) _ _ ?_
  ·rintro ⟨i, Aa, n, v, Lp⟩ f wz ⟨fz, rfl, hp, hi0, hau, hn, hLl, hLs, hLb⟩ ihL0
   refine Lp_round ?_
   refine GW_seq ?_
   refine GW_seq ?_
   refine GW_region ?_
   refine GL_rd (v := .int _ _) (wn_none rfl) rfl (rd_move rfl rfl) ?_
   refine GL_rd (wn_none rfl) rfl (rd_field rfl rfl fa25_4 _ rfl) ?_
   refine GL_rd (v := .slice _ _ _) (wn_none rfl) rfl (rd_load rfl rfl Tryz.underlying23 rfl ((cell_of_cells (hp.get 4 rfl) _).trans rfl)) ?_
   refine GL_rd (wn_none rfl) rfl (rd_len rfl rfl Tryz.underlying23) ?_
   refine GL_rd (wn_none rfl) rfl (rd_bin rfl rfl rfl bo_lss) ?_
   refine GL_nil ?_
   refine GW_cond rfl (fun hb2 => ?_) (fun hb2 => ?_)
   ·(try simp only [decide_eq_true_eq, decide_eq_false_iff_not, Bool.not_eq_true', Bool.not_eq_false', Bool.not_eq_eq_eq_not, Bool.not_true, Bool.not_false, Int.not_lt, Int.not_le] at hb2)
    obtain ⟨gU, bU, rfl⟩ := hau.addr (by rw [flat_length recC_len]; omega)
    have hrz := hSa _ (recAt_mem (l := b.au) (i := i) (by omega))
    refine GW_skip ?_
    refine GW_seq ?_
    refine GW_block ?_
    refine GW_seq ?_
    refine GW_region ?_
    refine GL_rd (wn_none rfl) rfl (rd_field rfl rfl fa25_4 _ rfl) ?_
    refine GL_rd (v := .slice _ _ _) (wn_none rfl) rfl (rd_load rfl rfl Tryz.underlying23 rfl ((cell_of_cells (hp.get 4 rfl) _).trans rfl)) ?_
    refine GL_rd (v := .int _ _) (wn_none rfl) rfl (rd_move rfl rfl) ?_
    refine GL_rd (wn_none rfl) rfl (rd_indexS (j := i) rfl rfl rfl Tryz.underlying23 ts46 rfl (by omega) _ rfl) ?_
    refine GL_rd (wn_none rfl) rfl (rd_loadN (L := recC _) rfl rfl Tryz.underlying46 rfl ts46 (recC_len _) (fun jq u hj => Sl.recE (hau.keep hp.mod) i (by first | omega | assumption | exact Nat.lt_succ_self _) hj)) ?_
    refine GL_call (wn_none rfl) rfl rfl (ref_audPut (recAt b.au i) _ hrz) rfl ?_
    rintro _ w ⟨vb, rfl, hk⟩
    have hp := hp.comp hk
    obtain ⟨Ab, cb, rfl⟩ := row_shape (hp.get 0 rfl)
    refine GL_rd (v := .tuple _) (wn_none rfl) rfl (rd_move rfl rfl) ?_
    refine GL_rd (v := .slice _ _ _) (wn_none rfl) rfl (rd_extract rfl rfl rfl) ?_
    refine GL_rd (v := .int _ _) (wn_none rfl) rfl (rd_extract rfl rfl rfl) ?_
    refine GL_rd (v := .slice _ _ _) (wn_none rfl) rfl (rd_assign rfl rfl) ?_
    refine GL_rd (v := .int _ _) (wn_none rfl) rfl (rd_assign rfl rfl) ?_
    refine GL_nil ?_
    refine GW_region ?_
    refine GL_rd (v := v) (wn_none rfl) rfl (rd_move rfl rfl) ?_
    refine GL_rd (v := .slice _ _ _) (wn_none rfl) rfl (rd_move rfl rfl) ?_
    refine GL_lit (L := [.slice Ab (putB (recAt b.au i)).length cb]) (wn_none rfl) rfl rfl Tryz.underlying22 ts35 tz35 rfl (by kernel_rfl) rfl rfl hp ?_
    intro g4 w hp
    refine GL_append (i := 2) (wn_none rfl) rfl rfl rfl rfl Tryz.underlying22 ti35 rfl (by decide) hp rfl (Sl.row (hp.get 0 rfl)) (one1 rfl) (by omega) (by omega) ?_
    intro v2 w hp
    refine GL_rd (v := v2) (wn_none rfl) rfl (rd_assign rfl rfl) ?_
    refine GL_nil ?_
    refine GW_region ?_
    refine GL_rd (v := .int _ _) (wn_none rfl) rfl (rd_move rfl rfl) ?_
    refine GL_rd (wn_none rfl) rfl (rd_bin rfl rfl rfl (bo_add64 (by omega))) ?_
    refine GL_rd (v := .int _ _) (wn_none rfl) rfl (rd_assign rfl rfl) ?_
    refine GL_nil ?_
    have hp := (((((((hp.front 2 rfl).front 6 rfl).front 6 rfl).front 6 rfl).front 6 rfl).front 6 rfl).take 6)
    have hp := hp.rowsZ_in
    have hp := hp.cast (show _ = [packL (rowsZ 5 (Lp ++ [(Value.slice Ab (putB (recAt b.au i)).length cb, putB (recAt b.au i))])), .row 5 1 (.slice Aq (buAdr b).1.length cq) (buAdr b).1.length (bys (buAdr b).1), cells g2 30 (List.replicate 32 (.int .u8 0)), cells g 25 (buC b (.slice At b.tx.length ct) (.slice (some ⟨gU, bU, none⟩) b.au.length ca)), .row 35 1 v2 (n + 1) (((.slice Aq (buAdr b).1.length cq, (buAdr b).1) :: (b.tx ++ (Lp ++ [(Value.slice Ab (putB (recAt b.au i)).length cb, putB (recAt b.au i))]))).map Prod.fst)] by rw [lst_snoc]; rfl)
    have hp := hp.front 4 rfl
    exact ihL0 (i + 1, _, _, _, Lp ++ [(Value.slice Ab (putB (recAt b.au i)).length cb, putB (recAt b.au i))]) _ _ (by simp only []; omega) ⟨_, slots4 rfl rfl rfl rfl, hp, by omega, hau, by omega, by rw [List.length_append, hLl]; rfl, by rw [List.map_append, hLs, put_snoc (by omega)]; rfl, fun x hx => by rcases List.mem_append.1 hx with h | h; exact hLb x h; rw [List.mem_singleton.1 h]; exact putB_le _⟩
   ·(try simp only [decide_eq_true_eq, decide_eq_false_iff_not, Bool.not_eq_true', Bool.not_eq_false', Bool.not_eq_eq_eq_not, Bool.not_true, Bool.not_false, Int.not_lt, Int.not_le] at hb2)
    have hil : i = b.au.length := by omega
    rw [hil, List.take_length] at hLs
    refine GW_exit ?_
    refine GW_seq ?_
    refine GW_region ?_
    refine GL_rd (v := v) (wn_none rfl) rfl (rd_move rfl rfl) ?_
    have hsn : ((.slice Aq (buAdr b).1.length cq, (buAdr b).1) :: (b.tx ++ Lp)).map Prod.snd = buTh b := by rw [List.map_cons, List.map_append, hLs]; rfl
    obtain ⟨er, ek⟩ := bu_root hc hsn
    have hll : ((.slice Aq (buAdr b).1.length cq, (buAdr b).1) :: (b.tx ++ Lp)).length = 1 + b.tx.length + b.au.length := by rw [List.length_cons, List.length_append, hLl]; omega
    refine GL_call (wn_none rfl) rfl rfl (ref_Root _ ((.slice Aq (buAdr b).1.length cq, (buAdr b).1) :: (b.tx ++ Lp)) _ (by rw [show ((.slice Aq (buAdr b).1.length cq, (buAdr b).1) :: (b.tx ++ Lp)).length = n by omega]; exact Sl.row (hp.get 0 rfl)) (by intro x hx; rcases List.mem_cons.1 hx with rfl | hx; exact Sl.row (hp.get 2 rfl); rcases List.mem_append.1 hx with hx | hx; exact (hB.txs x hx).keep hp.mod; exact rowsZ_sl (hp.get 1 rfl) x hx) (by intro x hx; rcases List.mem_cons.1 hx with rfl | hx; (show (buAdr b).1.length ≤ 65536; rw [(buAdr b).2]; decide); rcases List.mem_append.1 hx with hx | hx; (have := hSt x hx; omega); (have := hLb x hx; omega))) rfl ?_
    rintro v0 w ⟨hv, hk⟩
    have hp := hp.comp hk
    obtain rfl : v0 = .tuple #[.agg ⟨bys (buSeal b).1⟩, .int .i64 0] := hv.trans (by rw [er, ek])
    refine GL_rd (v := .agg ⟨_⟩) (wn_none rfl) rfl (rd_extract rfl rfl rfl) ?_
    refine GL_rd (v := .int _ _) (wn_none rfl) rfl (rd_extract rfl rfl rfl) ?_
    refine GL_store (i := 3) (wn_none rfl) rfl rfl rfl rfl ts30 rfl (by rw [bys_length]; exact (buSeal b).2) (bys_one _) hp rfl (Nat.le_of_ble_eq_true rfl) (splice_all _ _ (by rw [bys_length]; exact (buSeal b).2.trans rfl)) ?_
    intro w hp
    refine GL_rd (v := .int _ _) (wn_none rfl) rfl (rd_assign rfl rfl) ?_
    refine GL_nil ?_
    refine GW_ret ?_
    exact ⟨_, res2 Tryz.results8 (rv_cell rfl rfl Tryz.underlying30 rfl ts30 (by first | exact List.length_replicate | (rw [bys_length]; exact (buSeal _).2)) (hp.get 3 rfl)) (rv_tmp (v := .int _ _) rfl rfl), by rw [hc], hp.mods⟩
  ·have hp := hp.packNil
   have hp := ((((((hp.front 4 rfl).front 4 rfl).front 4 rfl).front 3 rfl).front 4 rfl).take 5)
   have hp := hp.cast (show _ = [.row 35 1 v (1 + b.tx.length) (((.slice Aq (buAdr b).1.length cq, (buAdr b).1) :: (b.tx ++ [])).map Prod.fst), packL (rowsZ 5 []), .row 5 1 (.slice Aq (buAdr b).1.length cq) (buAdr b).1.length (bys (buAdr b).1), cells g2 30 (List.replicate 32 (.int .u8 0)), cells g 25 (buC b (.slice At b.tx.length ct) (.slice Aa b.au.length ca))] by rw [List.append_nil]; rfl)
   refine ⟨_, slots4 rfl rfl rfl rfl, hp, Nat.zero_le _, hau, rfl, rfl, rfl, fun x hx => by cases hx⟩
theorem ref_field (R0 : Res) (sv xv : Value) (l x : List UInt8) (w0 : World) (hR : apdR 5 R0 sv l) (hr : Hp w0 R0.foot w0 [R0]) (hx : ∀ w', Mod R0.foot w0 w' → Sl w' xv 1 x.length (bys x)) (hbl : l.length ≤ 4294967295) (hbx : x.length ≤ 65535) : Does Tryz.prog 29 #[sv, xv] w0 fun v w' => Hp w0 R0.foot w' [.row 5 1 v (l ++ fldL x).length (bys (l ++ fldL x))] := by
 obtain ⟨Ax, cx, rfl⟩ := sl_shape (hx w0 (Mod.refl _ _))
 refine does_of (l := [sv, .slice Ax x.length cx]) Tryz.func29 (by kernel_rfl) rfl Tryz.ntmps29 rfl rfl (by kernel_rfl) ?_
 have hp := hr
 refine GW_seq ?_
 refine GW_region ?_
 refine GL_rd (v := .slice _ _ _) (wn_none rfl) rfl (rd_assign rfl rfl) ?_
 refine GL_nil ?_
 refine GW_seq ?_
 rcases hR with rfl | ⟨g0, hpos, rfl, rfl⟩
 ·skip
  refine GW_region ?_
  refine GL_rd (wn_none rfl) rfl (rd_move rfl rfl) ?_
  refine GL_rd (v := .slice _ _ _) (wn_none rfl) rfl (rd_move rfl rfl) ?_
  refine GL_rd (wn_none rfl) rfl (rd_len rfl rfl Tryz.underlying35) ?_
  refine GL_rd (wn_none rfl) rfl (rd_convE (q := (x.length : Int)) rfl rfl Tryz.underlying62 Tryz.underlying3 (by simp) (IntWalk.u64_in _ (by omega))) ?_
  refine GL_call (wn_none rfl) rfl rfl (ref_Put 2 x.length 2 _ (by omega) (by decide) rfl) rfl ?_
  intro q w hk
  have hp := hp.comp hk
  refine GL_append (i := 1) (wn_none rfl) rfl rfl rfl rfl Tryz.underlying35 ti5 rfl (by decide) hp rfl (Sl.row (hp.get 0 rfl)) (bys_one _) (by omega) (by omega) ?_
  intro v w hp
  rw [← bys_append] at hp
  refine GL_rd (v := v) (wn_none rfl) rfl (rd_assign rfl rfl) ?_
  refine GL_nil ?_
  refine GW_seq ?_
  refine GW_region ?_
  refine GL_rd (v := v) (wn_none rfl) rfl (rd_move rfl rfl) ?_
  refine GL_rd (v := .slice _ _ _) (wn_none rfl) rfl (rd_move rfl rfl) ?_
  refine GL_append (i := 1) (wn_none rfl) rfl rfl rfl rfl Tryz.underlying35 ti5 rfl (by decide) hp rfl (hx _ hp.mod) (bys_one _) (by omega) (by omega) ?_
  intro v2 w hp
  rw [← bys_append] at hp
  refine GL_rd (v := v2) (wn_none rfl) rfl (rd_assign rfl rfl) ?_
  refine GL_nil ?_
  refine GW_ret ?_
  have hp := ((hp.front 1 rfl).take 1)
  have hp := hp.cast (show _ = [.row 5 1 v2 _ (bys (l ++ fldL x))] by rw [fldL, ← List.append_assoc]; rfl)
  have en := row_n (hp.get 0 rfl)
  rw [en] at hp
  exact ⟨_, res1 Tryz.results29 (rv_tmp (v := v2) rfl rfl), hp⟩
 ·skip
  refine GW_region ?_
  refine GL_rd (wn_none rfl) rfl (rd_move rfl rfl) ?_
  refine GL_rd (v := .slice _ _ _) (wn_none rfl) rfl (rd_move rfl rfl) ?_
  refine GL_rd (wn_none rfl) rfl (rd_len rfl rfl Tryz.underlying35) ?_
  refine GL_rd (wn_none rfl) rfl (rd_convE (q := (x.length : Int)) rfl rfl Tryz.underlying62 Tryz.underlying3 (by simp) (IntWalk.u64_in _ (by omega))) ?_
  refine GL_call (wn_none rfl) rfl rfl (ref_Put 2 x.length 2 _ (by omega) (by decide) rfl) rfl ?_
  intro q w hk
  have hp := hp.comp hk
  refine GL_appendFull (wn_none rfl) rfl rfl rfl rfl Tryz.underlying35 ti5 rfl (by decide) hp (Sl.blk (hp.get 1 rfl) 1 _ (by rw [bys_length, Nat.mul_one]) (by simp only [maxLen]; omega)) (Sl.row (hp.get 0 rfl)) (by omega) hpos (by decide) (by omega) (by omega) ?_
  intro v3 w hp
  rw [← bys_append] at hp
  refine GL_rd (v := v3) (wn_none rfl) rfl (rd_assign rfl rfl) ?_
  refine GL_nil ?_
  refine GW_seq ?_
  refine GW_region ?_
  refine GL_rd (v := v3) (wn_none rfl) rfl (rd_move rfl rfl) ?_
  refine GL_rd (v := .slice _ _ _) (wn_none rfl) rfl (rd_move rfl rfl) ?_
  refine GL_append (i := 0) (wn_none rfl) rfl rfl rfl rfl Tryz.underlying35 ti5 rfl (by decide) hp rfl (hx _ hp.mod) (bys_one _) (by omega) (by omega) ?_
  intro v4 w hp
  rw [← bys_append] at hp
  refine GL_rd (v := v4) (wn_none rfl) rfl (rd_assign rfl rfl) ?_
  refine GL_nil ?_
  refine GW_ret ?_
  have hp := ((hp.front 0 rfl).take 1)
  have hp := hp.cast (show _ = [.row 5 1 v4 _ (bys (l ++ fldL x))] by rw [fldL, ← List.append_assoc]; rfl)
  have en := row_n (hp.get 0 rfl)
  rw [en] at hp
  exact ⟨_, res1 Tryz.results29 (rv_tmp (v := v4) rfl rfl), hp⟩
set_option maxHeartbeats 1000000 in
theorem ref_buPut (b : Bu) (tv av : Value) (w0 : World) (hB : BuAt b tv av w0) (hS : BuSm b) : Does Tryz.prog 10 #[.agg ⟨buC b tv av⟩] w0 fun v w' => ∃ pv, v = .tuple #[pv, .int .i64 (buK b)] ∧ Hp w0 [] w' [.row 5 1 pv (buBytes b).length (bys (buBytes b))] := by
 have hS0 := hS
 obtain ⟨At, ct, rfl⟩ := sl_shape hB.tx
 obtain ⟨Aa, ca, rfl⟩ := sl_shape hB.au
 have htx := hB.tx
 have hau := hB.au
 obtain ⟨hSc, hSn, hSl, hSt, hSk, hSa⟩ := hS
 refine does_of (l := [.agg ⟨(buC b (.slice At b.tx.length ct) (.slice Aa b.au.length ca))⟩]) Tryz.func10 (by kernel_rfl) rfl Tryz.ntmps10 rfl rfl (by kernel_rfl) ?_
 have hp := Hp.refl w0 []
 refine GW_seq ?_
 refine GW_region ?_
 refine GL_box (wn_none rfl) rfl rfl rfl rfl hp ?_
 intro g w hp
 refine GL_rd (v := .slice _ _ _) (wn_none rfl) rfl (rd_assign rfl rfl) ?_
 refine GL_rd (v := .int _ _) (wn_none rfl) rfl (rd_assign rfl rfl) ?_
 refine GL_nil ?_
 refine GW_seq ?_
 refine GW_region ?_
 refine GL_rd (wn_none rfl) rfl (rd_loadC rfl rfl Tryz.underlying25 rfl ts25 (hp.get 0 rfl) (by first | (rw [bys_length]; first | exact a32_len _) | rfl | simp [bys_length, *])) ?_
 refine GL_call (wn_none rfl) rfl rfl (ref_buSeal b _ _ _ (hB.keep hp.mod) hS0) rfl ?_
 rintro _ w ⟨rfl, hk⟩
 have hp := hp.comp hk
 refine GL_rd (v := .tuple _) (wn_none rfl) rfl (rd_move rfl rfl) ?_
 refine GL_rd (v := .agg ⟨_⟩) (wn_none rfl) rfl (rd_extract rfl rfl rfl) ?_
 refine GL_rd (v := .int .i64 (buK b)) (wn_none rfl) rfl (rd_extract rfl rfl rfl) ?_
 refine GL_alloc (wn_none rfl) rfl rfl tz30 rfl hp ?_
 intro g2 w hp
 refine GL_store (i := 0) (wn_none rfl) rfl rfl rfl rfl ts30 rfl (by rw [bys_length]; exact (buSeal b).2) (bys_one _) hp rfl (Nat.le_of_ble_eq_true rfl) (splice_all _ _ (by rw [bys_length]; exact (buSeal b).2.trans rfl)) ?_
 intro w hp
 refine GL_rd (v := .int .i64 (buK b)) (wn_none rfl) rfl (rd_assign rfl rfl) ?_
 refine GL_nil ?_
 refine GW_seq ?_
 refine GW_seq ?_
 refine GW_region ?_
 refine GL_rd (v := .int .i64 (buK b)) (wn_none rfl) rfl (rd_move rfl rfl) ?_
 refine GL_rd (wn_none rfl) rfl (rd_bin rfl rfl rfl bo_neq) ?_
 refine GL_nil ?_
 refine GW_cond rfl (fun hb => ?_) (fun hb => ?_)
 ·(try simp only [decide_eq_true_eq, decide_eq_false_iff_not, Bool.not_eq_true', Bool.not_eq_false', Bool.not_eq_eq_eq_not, Bool.not_true, Bool.not_false, Int.not_lt, Int.not_le] at hb)
  have hc : ¬ buK b = 0 := hb
  refine GW_seq ?_
  refine GW_region ?_
  refine GL_rd (v := .int .i64 (buK b)) (wn_none rfl) rfl (rd_move rfl rfl) ?_
  refine GL_rd (v := .slice _ _ _) (wn_none rfl) rfl (rd_assign rfl rfl) ?_
  refine GL_rd (v := .int .i64 (buK b)) (wn_none rfl) rfl (rd_assign rfl rfl) ?_
  refine GL_nil ?_
  refine GW_ret ?_
  have hp := hp.mods.nilRow 5 1
  exact ⟨_, res2 Tryz.results10 (rv_tmp (v := .slice _ _ _) rfl rfl) (rv_tmp (v := .int .i64 (buK b)) rfl rfl), .slice none 0 0, rfl, by rw [buBytes_no hc]; exact hp⟩
 ·(try simp only [decide_eq_true_eq, decide_eq_false_iff_not, Bool.not_eq_true', Bool.not_eq_false', Bool.not_eq_eq_eq_not, Bool.not_true, Bool.not_false, Int.not_lt, Int.not_le] at hb)
  have hc : buK b = 0 := hb
  have hkd := buHd_ok.1 (buK_ok hc).1
  have htl := (buK_ok hc).2.1
  have hal := (buK_ok hc).2.2
  have h0l := buS0_len (buK_ok hc).1
  have hf1 : (fldL b.cls.data.toList).length = 2 + b.cls.size := by rw [fldL_len, strl_len]
  have hf2 : (fldL b.note.data.toList).length = 2 + b.note.size := by rw [fldL_len, strl_len]
  have htt : ∀ i, i ≤ b.tx.length → (buTs (b.tx.take i)).length ≤ 2050 * i := fun i hi => by have h := buTs_le (b.tx.take i) (k := 2048) fun x hx => (htl x (List.take_subset _ _ hx)).2; rwa [List.length_take, Nat.min_eq_left hi] at h
  have haa : ∀ i, i ≤ b.au.length → (buAs (b.au.take i)).length ≤ 155 * i := fun i hi => by have h := buAs_le (b.au.take i); rwa [List.length_take, Nat.min_eq_left hi] at h
  refine GW_skip ?_
  refine GW_seq ?_
  refine GW_region ?_
  refine GL_lit (L := (bys buW)) (wn_none rfl) rfl rfl Tryz.underlying35 ts5 tz5 rfl (by kernel_rfl) rfl rfl hp ?_
  intro g3 w hp
  refine GL_convB (i := 0) (wn_none rfl) rfl rfl rfl Tryz.underlying35 Tryz.underlying5 hp rfl ?_
  intro w hp
  refine GL_rd (wn_none rfl) rfl (rd_field rfl rfl fa25_0 _ rfl) ?_
  refine GL_rd (wn_none rfl) rfl (rd_load rfl rfl Tryz.underlying9 rfl ((cell_of_cells (hp.get 2 rfl) _).trans rfl)) ?_
  refine GL_strB (wn_none rfl) rfl rfl rfl Tryz.underlying9 Tryz.underlying35 Tryz.underlying5 hp (by omega) ?_
  intro sb ob sv w hp hsl
  refine GL_call (wn_none rfl) rfl rfl (ref_field _ _ _ (buW) (b.cls.data.toList) _ (.inr ⟨g3, by decide, rfl, rfl⟩) (Hp.oneR (hp.get 1 rfl)) (fun w' h => (by rw [strl_len]; exact hsl _ (hp.stayAt 1 0 rfl rfl (by decide) h))) (by decide) (by rw [strl_len]; omega)) rfl ?_
  intro f1 w hk
  have hp := hp.turnAtMore 1 rfl hk
  refine GL_rd (v := f1) (wn_none rfl) rfl (rd_assign rfl rfl) ?_
  refine GL_nil ?_
  refine GW_seq ?_
  refine GW_region ?_
  refine GL_rd (v := f1) (wn_none rfl) rfl (rd_move rfl rfl) ?_
  refine GL_rd (wn_none rfl) rfl (rd_field rfl rfl fa25_1 _ rfl) ?_
  refine GL_rd (wn_none rfl) rfl (rd_load rfl rfl Tryz.underlying3 rfl ((cell_of_cells (hp.get 3 rfl) _).trans rfl)) ?_
  refine GL_rd (wn_none rfl) rfl (rd_convE (q := (u64N b.made : Int)) rfl rfl Tryz.underlying62 Tryz.underlying3 (by simp) (u64_wrapN _)) ?_
  refine GL_call (wn_none rfl) rfl rfl (ref_Put 6 (u64N b.made) 6 _ (u64N_lt _) (by decide) rfl) rfl ?_
  intro q w hk
  have hp := hp.comp hk
  refine GL_append (i := 1) (wn_none rfl) rfl rfl rfl rfl Tryz.underlying35 ti5 rfl (by decide) hp rfl (Sl.row (hp.get 0 rfl)) (bys_one _) (by simp only [List.length_append, putL_length, buW, List.length_cons, List.length_nil, (buSeal b).2]; omega) (by simp only [List.length_append, putL_length, buW, List.length_cons, List.length_nil, (buSeal b).2]; omega) ?_
  intro v w hp
  rw [← bys_append] at hp
  have en := row_n (hp.get 1 rfl)
  rw [en] at hp
  refine GL_rd (v := v) (wn_none rfl) rfl (rd_assign rfl rfl) ?_
  refine GL_nil ?_
  refine GW_seq ?_
  refine GW_region ?_
  refine GL_rd (v := v) (wn_none rfl) rfl (rd_move rfl rfl) ?_
  refine GL_rd (wn_none rfl) rfl (rd_field rfl rfl fa25_2 _ rfl) ?_
  refine GL_rd (wn_none rfl) rfl (rd_load rfl rfl Tryz.underlying9 rfl ((cell_of_cells (hp.get 4 rfl) _).trans rfl)) ?_
  refine GL_strB (wn_none rfl) rfl rfl rfl Tryz.underlying9 Tryz.underlying35 Tryz.underlying5 hp (by omega) ?_
  intro sb2 ob2 sv2 w hp hsl2
  refine GL_call (wn_none rfl) rfl rfl (ref_field _ _ _ (buW ++ fldL b.cls.data.toList ++ putL (u64N b.made) 6) (b.note.data.toList) _ (.inl rfl) (Hp.oneR (hp.get 2 rfl)) (fun w' h => (by rw [strl_len]; exact hsl2 _ (hp.stayAt 2 0 rfl rfl (by decide) h))) (by simp only [List.length_append, fldL_len, putL_length, strl_len, buW, List.length_cons, List.length_nil]; omega) (by rw [strl_len]; omega)) rfl ?_
  intro f2 w hk
  have hp := hp.turnAtMore 2 rfl hk
  refine GL_rd (v := f2) (wn_none rfl) rfl (rd_assign rfl rfl) ?_
  refine GL_nil ?_
  refine GW_seq ?_
  refine GW_region ?_
  refine GL_rd (v := f2) (wn_none rfl) rfl (rd_move rfl rfl) ?_
  refine GL_rd (wn_none rfl) rfl (rd_field rfl rfl fa25_3 _ rfl) ?_
  refine GL_rd (v := .slice _ _ _) (wn_none rfl) rfl (rd_load rfl rfl Tryz.underlying22 rfl ((cell_of_cells (hp.get 5 rfl) _).trans rfl)) ?_
  refine GL_rd (wn_none rfl) rfl (rd_len rfl rfl Tryz.underlying22) ?_
  refine GL_rd (wn_none rfl) rfl (rd_convE (q := ((nB b.tx.length).toNat : Int)) rfl rfl Tryz.underlying5 Tryz.underlying3 (by simp) (kB_wrap _)) ?_
  refine GL_lit (L := (bys [nB b.tx.length])) (wn_none rfl) rfl rfl Tryz.underlying35 ts5 tz5 rfl (by kernel_rfl) rfl rfl hp ?_
  intro g4 w hp
  refine GL_append (i := 1) (wn_none rfl) rfl rfl rfl rfl Tryz.underlying35 ti5 rfl (by decide) hp rfl (Sl.row (hp.get 0 rfl)) (bys_one _) (by simp only [List.length_append, putL_length, buW, List.length_cons, List.length_nil, (buSeal b).2]; omega) (by simp only [List.length_append, putL_length, buW, List.length_cons, List.length_nil, (buSeal b).2]; omega) ?_
  intro v2 w hp
  rw [← bys_append] at hp
  have en := row_n (hp.get 1 rfl)
  rw [en] at hp
  refine GL_rd (v := v2) (wn_none rfl) rfl (rd_assign rfl rfl) ?_
  refine GL_nil ?_
  refine GW_seq ?_
  refine GW_seq ?_
  refine GW_region ?_
  refine GL_rd (v := .int _ _) (wn_none rfl) rfl (rd_assign rfl rfl) ?_
  refine GL_nil ?_
  refine GW_block ?_
  refine GW_loop ?_
  refine Lp_ind (α := Nat × Option Addr × Value) (fun a_0 f_0 w' => match a_0 with | (i, At, v) => ∃ fz, f_0 = (upd (upd (upd (upd fz 7 (.int .i64 (i : Int))) 6 (v)) 1 (.pointer (some ⟨g, 0, none⟩))) 4 (.pointer (some ⟨g2, 0, none⟩))) ∧ Hp w0 [] w' [.row 5 1 v ((buS0 b ++ buTs (b.tx.take i))).length (bys ((buS0 b ++ buTs (b.tx.take i)))), cells g2 30 (bys (buSeal b).1), cells g 25 (buC b (.slice At b.tx.length ct) (.slice Aa b.au.length ca))] ∧ (i ≤ b.tx.length) ∧ (Sl w0 (.slice At b.tx.length ct) 1 b.tx.length (b.tx.map Prod.fst))) (fun a_0 => match a_0 with | (i, At, v) => b.tx.length - i) ?_ (0, At, v2) _ _ ?_
  ·rintro ⟨i, At, v⟩ f wz ⟨fz, rfl, hp, hi0, htx⟩ ihL0
   refine Lp_round ?_
   refine GW_seq ?_
   refine GW_seq ?_
   refine GW_region ?_
   refine GL_rd (v := .int _ _) (wn_none rfl) rfl (rd_move rfl rfl) ?_
   refine GL_rd (wn_none rfl) rfl (rd_field rfl rfl fa25_3 _ rfl) ?_
   refine GL_rd (v := .slice _ _ _) (wn_none rfl) rfl (rd_load rfl rfl Tryz.underlying22 rfl ((cell_of_cells (hp.get 2 rfl) _).trans rfl)) ?_
   refine GL_rd (wn_none rfl) rfl (rd_len rfl rfl Tryz.underlying22) ?_
   refine GL_rd (wn_none rfl) rfl (rd_bin rfl rfl rfl bo_lss) ?_
   refine GL_nil ?_
   refine GW_cond rfl (fun hb2 => ?_) (fun hb2 => ?_)
   ·(try simp only [decide_eq_true_eq, decide_eq_false_iff_not, Bool.not_eq_true', Bool.not_eq_false', Bool.not_eq_eq_eq_not, Bool.not_true, Bool.not_false, Int.not_lt, Int.not_le] at hb2)
    obtain ⟨gT, bT, rfl⟩ := htx.addr (by rw [List.length_map]; omega)
    have hxm := getD_inL (l := b.tx) (i := i) (by omega)
    obtain ⟨Ax, cx, hsh⟩ := sl_shape (hB.txs _ hxm)
    have hxb := hSt _ hxm
    have hti := htt i hi0
    refine GW_skip ?_
    refine GW_seq ?_
    refine GW_block ?_
    refine GW_region ?_
    refine GL_rd (v := v) (wn_none rfl) rfl (rd_move rfl rfl) ?_
    refine GL_rd (wn_none rfl) rfl (rd_field rfl rfl fa25_3 _ rfl) ?_
    refine GL_rd (v := .slice _ _ _) (wn_none rfl) rfl (rd_load rfl rfl Tryz.underlying22 rfl ((cell_of_cells (hp.get 2 rfl) _).trans rfl)) ?_
    refine GL_rd (v := .int _ _) (wn_none rfl) rfl (rd_move rfl rfl) ?_
    refine GL_rd (wn_none rfl) rfl (rd_indexS (j := i) rfl rfl rfl Tryz.underlying22 ts35 rfl (by omega) _ rfl) ?_
    refine GL_rd (v := .slice _ _ _) (wn_none rfl) rfl (rd_load rfl rfl Tryz.underlying35 rfl ((htx.keep hp.mod).get _ _ (by rw [Nat.mul_one]; exact (fstL_at (L := b.tx) (i := i) (by omega)).trans (congrArg some hsh)))) ?_
    refine GL_call (wn_none rfl) rfl rfl (ref_field _ _ _ ((buS0 b ++ buTs (b.tx.take i))) ((b.tx.getD i default).2) _ (.inl rfl) (Hp.oneR (hp.get 0 rfl)) (fun w' h => (by have h2 := (hB.txs _ hxm).keep (hp.modAt 0 rfl h); rw [hsh] at h2; exact h2)) (by have := htt i hi0; rw [List.length_append]; omega) (by omega)) rfl ?_
    intro f3 w hk
    have hp := hp.turnAtMore 0 rfl hk
    refine GL_rd (v := f3) (wn_none rfl) rfl (rd_assign rfl rfl) ?_
    refine GL_nil ?_
    refine GW_region ?_
    refine GL_rd (v := .int _ _) (wn_none rfl) rfl (rd_move rfl rfl) ?_
    refine GL_rd (wn_none rfl) rfl (rd_bin rfl rfl rfl (bo_add64 (by omega))) ?_
    refine GL_rd (v := .int _ _) (wn_none rfl) rfl (rd_assign rfl rfl) ?_
    refine GL_nil ?_
    have hp := ((((hp.front 2 rfl).front 2 rfl).front 2 rfl).take 3)
    have hp := hp.cast (show _ = [.row 5 1 f3 ((buS0 b ++ buTs (b.tx.take (i + 1)))).length (bys ((buS0 b ++ buTs (b.tx.take (i + 1))))), cells g2 30 (bys (buSeal b).1), cells g 25 (buC b (.slice (some ⟨gT, bT, none⟩) b.tx.length ct) (.slice Aa b.au.length ca))] by rw [buTs_snoc (by omega), ← List.append_assoc]; rfl)
    exact ihL0 (i + 1, _, _) _ _ (by simp only []; omega) ⟨_, slots4 rfl rfl rfl rfl, hp, by omega, htx⟩
   ·(try simp only [decide_eq_true_eq, decide_eq_false_iff_not, Bool.not_eq_true', Bool.not_eq_false', Bool.not_eq_eq_eq_not, Bool.not_true, Bool.not_false, Int.not_lt, Int.not_le] at hb2)
    have hil : i = b.tx.length := by omega
    have hti := htt i hi0
    rw [hil, List.take_length] at hp hti
    have hXl : (buS0 b ++ buTs b.tx).length = (buS0 b).length + (buTs b.tx).length := List.length_append
    refine GW_exit ?_
    refine GW_seq ?_
    refine GW_region ?_
    refine GL_rd (v := v) (wn_none rfl) rfl (rd_move rfl rfl) ?_
    refine GL_rd (wn_none rfl) rfl (rd_field rfl rfl fa25_4 _ rfl) ?_
    refine GL_rd (v := .slice _ _ _) (wn_none rfl) rfl (rd_load rfl rfl Tryz.underlying23 rfl ((cell_of_cells (hp.get 2 rfl) _).trans rfl)) ?_
    refine GL_rd (wn_none rfl) rfl (rd_len rfl rfl Tryz.underlying23) ?_
    refine GL_rd (wn_none rfl) rfl (rd_convE (q := ((nB b.au.length).toNat : Int)) rfl rfl Tryz.underlying5 Tryz.underlying3 (by simp) (kB_wrap _)) ?_
    refine GL_lit (L := (bys [nB b.au.length])) (wn_none rfl) rfl rfl Tryz.underlying35 ts5 tz5 rfl (by kernel_rfl) rfl rfl hp ?_
    intro g5 w hp
    refine GL_append (i := 1) (wn_none rfl) rfl rfl rfl rfl Tryz.underlying35 ti5 rfl (by decide) hp rfl (Sl.row (hp.get 0 rfl)) (bys_one _) (by omega) (by omega) ?_
    intro v3 w hp
    rw [← bys_append] at hp
    have en := row_n (hp.get 1 rfl)
    rw [en] at hp
    refine GL_rd (v := v3) (wn_none rfl) rfl (rd_assign rfl rfl) ?_
    refine GL_nil ?_
    refine GW_seq ?_
    refine GW_seq ?_
    refine GW_region ?_
    refine GL_rd (v := .int _ _) (wn_none rfl) rfl (rd_assign rfl rfl) ?_
    refine GL_nil ?_
    refine GW_block ?_
    refine GW_loop ?_
    refine Lp_ind (α := Nat × Option Addr × Value) (fun a_0 f_0 w' => match a_0 with | (i, Aa, v) => ∃ fz, f_0 = (upd (upd (upd (upd fz 8 (.int .i64 (i : Int))) 6 (v)) 1 (.pointer (some ⟨g, 0, none⟩))) 4 (.pointer (some ⟨g2, 0, none⟩))) ∧ Hp w0 [] w' [.row 5 1 v ((buS0 b ++ buTs b.tx ++ [nB b.au.length] ++ buAs (b.au.take i))).length (bys ((buS0 b ++ buTs b.tx ++ [nB b.au.length] ++ buAs (b.au.take i)))), cells g2 30 (bys (buSeal b).1), cells g 25 (buC b (.slice At b.tx.length ct) (.slice Aa b.au.length ca))] ∧ (i ≤ b.au.length) ∧ (Sl w0 (.slice Aa b.au.length ca) 100 b.au.length (b.au.flatMap recC))) (fun a_0 => match a_0 with | (i, Aa, v) => b.au.length - i) ?_ (0, Aa, v3) _ _ ?_
    ·rintro ⟨i, Aa, v⟩ f wz ⟨fz, rfl, hp, hi0, hau⟩ ihL1
     refine Lp_round ?_
     refine GW_seq ?_
     refine GW_seq ?_
     refine GW_region ?_
     refine GL_rd (v := .int _ _) (wn_none rfl) rfl (rd_move rfl rfl) ?_
     refine GL_rd (wn_none rfl) rfl (rd_field rfl rfl fa25_4 _ rfl) ?_
     refine GL_rd (v := .slice _ _ _) (wn_none rfl) rfl (rd_load rfl rfl Tryz.underlying23 rfl ((cell_of_cells (hp.get 2 rfl) _).trans rfl)) ?_
     refine GL_rd (wn_none rfl) rfl (rd_len rfl rfl Tryz.underlying23) ?_
     refine GL_rd (wn_none rfl) rfl (rd_bin rfl rfl rfl bo_lss) ?_
     refine GL_nil ?_
     refine GW_cond rfl (fun hb3 => ?_) (fun hb3 => ?_)
     ·(try simp only [decide_eq_true_eq, decide_eq_false_iff_not, Bool.not_eq_true', Bool.not_eq_false', Bool.not_eq_eq_eq_not, Bool.not_true, Bool.not_false, Int.not_lt, Int.not_le] at hb3)
      obtain ⟨gU, bU, rfl⟩ := hau.addr (by rw [flat_length recC_len]; omega)
      have hrz := hSa _ (recAt_mem (l := b.au) (i := i) (by omega))
      have hai := haa i hi0
      have hpl := putB_le (recAt b.au i)
      have hXl : (buS0 b ++ buTs b.tx ++ [nB b.au.length] ++ buAs (b.au.take i)).length = (buS0 b).length + (buTs b.tx).length + 1 + (buAs (b.au.take i)).length := by simp only [List.length_append, List.length_cons, List.length_nil]
      refine GW_skip ?_
      refine GW_seq ?_
      refine GW_block ?_
      refine GW_seq ?_
      refine GW_region ?_
      refine GL_rd (wn_none rfl) rfl (rd_field rfl rfl fa25_4 _ rfl) ?_
      refine GL_rd (v := .slice _ _ _) (wn_none rfl) rfl (rd_load rfl rfl Tryz.underlying23 rfl ((cell_of_cells (hp.get 2 rfl) _).trans rfl)) ?_
      refine GL_rd (v := .int _ _) (wn_none rfl) rfl (rd_move rfl rfl) ?_
      refine GL_rd (wn_none rfl) rfl (rd_indexS (j := i) rfl rfl rfl Tryz.underlying23 ts46 rfl (by omega) _ rfl) ?_
      refine GL_rd (wn_none rfl) rfl (rd_loadN (L := recC _) rfl rfl Tryz.underlying46 rfl ts46 (recC_len _) (fun jq u hj => Sl.recE (hau.keep hp.mod) i (by first | omega | assumption | exact Nat.lt_succ_self _) hj)) ?_
      refine GL_call (wn_none rfl) rfl rfl (ref_audPut (recAt b.au i) _ hrz) rfl ?_
      rintro _ w ⟨vb, rfl, hk⟩
      have hp := hp.comp hk
      refine GL_rd (v := .tuple _) (wn_none rfl) rfl (rd_move rfl rfl) ?_
      refine GL_rd (v := vb) (wn_none rfl) rfl (rd_extract rfl rfl rfl) ?_
      refine GL_rd (v := .int _ _) (wn_none rfl) rfl (rd_extract rfl rfl rfl) ?_
      refine GL_rd (v := vb) (wn_none rfl) rfl (rd_assign rfl rfl) ?_
      refine GL_rd (v := .int _ _) (wn_none rfl) rfl (rd_assign rfl rfl) ?_
      refine GL_nil ?_
      refine GW_region ?_
      refine GL_rd (v := v) (wn_none rfl) rfl (rd_move rfl rfl) ?_
      refine GL_rd (v := vb) (wn_none rfl) rfl (rd_move rfl rfl) ?_
      refine GL_append (i := 1) (wn_none rfl) rfl rfl rfl rfl Tryz.underlying35 ti5 rfl (by decide) hp rfl (Sl.row (hp.get 0 rfl)) (bys_one _) (by omega) (by omega) ?_
      intro v4 w hp
      rw [← bys_append] at hp
      have en := row_n (hp.get 1 rfl)
      rw [en] at hp
      refine GL_rd (v := v4) (wn_none rfl) rfl (rd_assign rfl rfl) ?_
      refine GL_nil ?_
      refine GW_region ?_
      refine GL_rd (v := .int _ _) (wn_none rfl) rfl (rd_move rfl rfl) ?_
      refine GL_rd (wn_none rfl) rfl (rd_bin rfl rfl rfl (bo_add64 (by omega))) ?_
      refine GL_rd (v := .int _ _) (wn_none rfl) rfl (rd_assign rfl rfl) ?_
      refine GL_nil ?_
      have hp := ((((hp.front 3 rfl).front 3 rfl).front 3 rfl).take 3)
      have hp := hp.cast (show _ = [.row 5 1 v4 ((buS0 b ++ buTs b.tx ++ [nB b.au.length] ++ buAs (b.au.take (i + 1)))).length (bys ((buS0 b ++ buTs b.tx ++ [nB b.au.length] ++ buAs (b.au.take (i + 1))))), cells g2 30 (bys (buSeal b).1), cells g 25 (buC b (.slice At b.tx.length ct) (.slice (some ⟨gU, bU, none⟩) b.au.length ca))] by rw [buAs_snoc (by omega), ← List.append_assoc]; rfl)
      exact ihL1 (i + 1, _, _) _ _ (by simp only []; omega) ⟨_, slots4 rfl rfl rfl rfl, hp, by omega, hau⟩
     ·(try simp only [decide_eq_true_eq, decide_eq_false_iff_not, Bool.not_eq_true', Bool.not_eq_false', Bool.not_eq_eq_eq_not, Bool.not_true, Bool.not_false, Int.not_lt, Int.not_le] at hb3)
      have hil : i = b.au.length := by omega
      have hai := haa i hi0
      rw [hil, List.take_length] at hp hai
      have hXl : (buS0 b ++ buTs b.tx ++ [nB b.au.length] ++ buAs b.au).length = (buS0 b).length + (buTs b.tx).length + 1 + (buAs b.au).length := by simp only [List.length_append, List.length_cons, List.length_nil]
      refine GW_exit ?_
      refine GW_seq ?_
      refine GW_region ?_
      refine GL_rd (v := v) (wn_none rfl) rfl (rd_move rfl rfl) ?_
      refine GL_rd (wn_none rfl) rfl (rd_loadC rfl rfl Tryz.underlying30 rfl ts30 (hp.get 1 rfl) (by first | (rw [bys_length]; first | exact a32_len _) | rfl | simp [bys_length, *])) ?_
      refine GL_call (wn_none rfl) rfl rfl (ref_behind3 _ _ (buS0 b ++ buTs b.tx ++ [nB b.au.length] ++ buAs b.au) (buSeal b) _ (.inl rfl) (Hp.oneR (hp.get 0 rfl)) (by omega)) rfl ?_
      intro vs w hk
      have hp := hp.turnAtMore 0 rfl hk
      refine GL_rd (v := vs) (wn_none rfl) rfl (rd_assign rfl rfl) ?_
      refine GL_nil ?_
      refine GW_seq ?_
      refine GW_region ?_
      refine GL_rd (v := vs) (wn_none rfl) rfl (rd_move rfl rfl) ?_
      refine GL_rd (v := vs) (wn_none rfl) rfl (rd_move rfl rfl) ?_
      refine GL_call (wn_none rfl) rfl rfl (ref_Of _ _ (buSaid b) _ (Sl.row (hp.get 0 rfl)) (by rw [show ((buS0 b ++ buTs b.tx ++ [nB b.au.length] ++ buAs b.au) ++ (buSeal b).1).length = (buS0 b ++ buTs b.tx ++ [nB b.au.length] ++ buAs b.au).length + 32 by rw [List.length_append, (buSeal b).2]]; omega)) rfl ?_
      rintro _ w ⟨rfl, hk⟩
      have hp := hp.comp hk
      refine GL_rd (wn_none rfl) rfl (rd_convE (q := ((ofB (buSaid b)).toNat : Int)) rfl rfl Tryz.underlying62 Tryz.underlying64 (by simp) (IntWalk.u64_in _ (by have := (ofB (buSaid b)).isLt; omega))) ?_
      refine GL_call (wn_none rfl) rfl rfl (ref_Put 4 (ofB (buSaid b)).toNat 4 _ (by have := (ofB (buSaid b)).isLt; omega) (by decide) rfl) rfl ?_
      intro q2 w hk
      have hp := hp.comp hk
      refine GL_append (i := 1) (wn_none rfl) rfl rfl rfl rfl Tryz.underlying35 ti5 rfl (by decide) hp rfl (Sl.row (hp.get 0 rfl)) (bys_one _) (by simp only [List.length_append, putL_length, buW, List.length_cons, List.length_nil, (buSeal b).2]; omega) (by simp only [List.length_append, putL_length, buW, List.length_cons, List.length_nil, (buSeal b).2]; omega) ?_
      intro v5 w hp
      rw [← bys_append] at hp
      refine GL_rd (v := v5) (wn_none rfl) rfl (rd_assign rfl rfl) ?_
      refine GL_rd (v := .int _ _) (wn_none rfl) rfl (rd_assign rfl rfl) ?_
      refine GL_nil ?_
      refine GW_ret ?_
      have hp := ((hp.front 1 rfl).take 1)
      rw [← four_put] at hp
      have hp := hp.cast (show _ = [.row 5 1 v5 _ (bys (sealL (buSaid b)))] from rfl)
      have en := row_n (hp.get 0 rfl)
      rw [en] at hp
      exact ⟨_, res2 Tryz.results10 (rv_tmp (v := v5) rfl rfl) (rv_tmp (v := .int _ _) rfl rfl), _, by rw [hc], by rw [buBytes_yes hc]; exact hp⟩
    ·have hp := ((((hp.front 3 rfl).front 3 rfl).front 3 rfl).take 3)
     have hp := hp.cast (show _ = [.row 5 1 v3 ((buS0 b ++ buTs b.tx ++ [nB b.au.length] ++ buAs (b.au.take 0))).length (bys ((buS0 b ++ buTs b.tx ++ [nB b.au.length] ++ buAs (b.au.take 0)))), cells g2 30 (bys (buSeal b).1), cells g 25 (buC b (.slice At b.tx.length ct) (.slice Aa b.au.length ca))] by rw [show (buS0 b ++ buTs b.tx ++ [nB b.au.length] ++ buAs (b.au.take 0)) = (buS0 b ++ buTs b.tx ++ [nB b.au.length]) by simp [buAs]]; rfl)
     refine ⟨_, slots4 rfl rfl rfl rfl, hp, Nat.zero_le _, hau⟩
  ·have hp := ((((hp.front 6 rfl).front 6 rfl).front 3 rfl).take 3)
   have hp := hp.cast (show _ = [.row 5 1 v2 ((buS0 b ++ buTs (b.tx.take 0))).length (bys ((buS0 b ++ buTs (b.tx.take 0)))), cells g2 30 (bys (buSeal b).1), cells g 25 (buC b (.slice At b.tx.length ct) (.slice Aa b.au.length ca))] by rw [show (buS0 b ++ buTs (b.tx.take 0)) = (buW ++ fldL b.cls.data.toList ++ putL (u64N b.made) 6 ++ fldL b.note.data.toList ++ [nB b.tx.length]) by simp [buS0, buTs]]; rfl)
   refine ⟨_, slots4 rfl rfl rfl rfl, hp, Nat.zero_le _, htx⟩
end Go.Proofs.YtpagpmioopaciaaGreat
