/- Walks of functions of the program. -/
import Derived.Test.YtpagpmioopaciaaGreatPFSeal
import Derived.Test.YtpagpmioopaciaaGreatPFAud
import Derived.Test.YtpagpmioopaciaaGreatPFBin
import Derived.Test.YtpagpmioopaciaaGreatPBunS
set_option linter.unusedVariables false
set_option linter.unusedSimpArgs false
namespace Go.Proofs.YtpagpmioopaciaaGreat
open Go.Mo Go.RowKit
set_option maxHeartbeats 1000000 in
theorem bu_Check (b : Bu) (tv av : Value) (w0 : World) (hB : BuAt b tv av w0) (hS : BuSm b) : Does Tryz.prog 11 #[.agg ⟨buC b tv av⟩] w0 fun v w' => v = .int .i64 (buK b) ∧ Hp w0 [] w' [] := by
 obtain ⟨At, ct, rfl⟩ := sl_shape hB.tx
 obtain ⟨Aa, ca, rfl⟩ := sl_shape hB.au
 have htx := hB.tx
 have hau := hB.au
 obtain ⟨hSc, hSn, hSl, hSt, hSk, hSa⟩ := hS
 refine does_of (l := [.agg ⟨(buC b (.slice At b.tx.length ct) (.slice Aa b.au.length ca))⟩]) Tryz.func11 (by kernel_rfl) rfl Tryz.ntmps11 rfl rfl (by kernel_rfl) ?_
 have hp := Hp.refl w0 []
 refine GW_seq ?_
 refine GW_region ?_
 refine GL_box (wn_none rfl) rfl rfl rfl rfl hp ?_
 intro g w hp
 refine GL_rd (v := .int _ _) (wn_none rfl) rfl (rd_assign rfl rfl) ?_
 refine GL_nil ?_
 refine GW_seq ?_
 refine GW_block ?_
 refine GW_seq ?_
 refine GW_region ?_
 refine GL_rd (wn_none rfl) rfl (rd_field rfl rfl fa28_0 _ rfl) ?_
 refine GL_rd (wn_none rfl) rfl (rd_load rfl rfl Tryz.underlying9 rfl ((cell_of_cells (hp.get 0 rfl) _).trans rfl)) ?_
 refine GL_rd (wn_none rfl) rfl (rd_lenS rfl rfl Tryz.underlying9) ?_
 refine GL_rd (wn_none rfl) rfl (rd_bin rfl rfl rfl bo_lss) ?_
 refine GL_rd (v := .bool _) (wn_none rfl) rfl (rd_move rfl rfl) ?_
 refine GL_split (t := 14) (b := _) rfl ?_ ?_
 ·intro hb; (try simp only [decide_eq_true_eq, decide_eq_false_iff_not, Bool.not_eq_true', Bool.not_eq_false', Bool.not_eq_eq_eq_not, Bool.not_true, Bool.not_false, Int.not_lt, Int.not_le] at hb)
  refine GL_pass (nw_off rfl rfl rfl rfl rfl) rfl ?_
  refine GL_pass (nw_off rfl rfl rfl rfl rfl) rfl ?_
  refine GL_pass (nw_off rfl rfl rfl rfl rfl) rfl ?_
  refine GL_pass (nw_off rfl rfl rfl rfl rfl) rfl ?_
  refine GL_rd (v := .bool _) (wn_none rfl) rfl (rd_pickT rfl rfl rfl) ?_
  refine GL_rd (v := .bool _) (wn_none rfl) rfl (rd_assign rfl rfl) ?_
  refine GL_nil ?_
  refine GW_true rfl ?_
  refine GW_seq ?_
  refine GW_region ?_
  refine GL_rd (v := .int _ _) (wn_none rfl) rfl (rd_assign rfl rfl) ?_
  refine GL_nil ?_
  refine GW_ret ?_
  have eh : buHd b = 10 := by rw [buHd, if_pos (by omega)]
  exact ⟨_, res1 Tryz.results11 (rv_tmp (v := .int _ _) rfl rfl), by rw [buK_hd (by rw [eh]; decide), eh], hp.mods⟩
 ·intro hb; (try simp only [decide_eq_true_eq, decide_eq_false_iff_not, Bool.not_eq_true', Bool.not_eq_false', Bool.not_eq_eq_eq_not, Bool.not_true, Bool.not_false, Int.not_lt, Int.not_le] at hb)
  refine GL_rd (wn_on rfl rfl rfl rfl) rfl (rd_field rfl rfl fa28_0 _ rfl) ?_
  refine GL_rd (wn_on rfl rfl rfl rfl) rfl (rd_load rfl rfl Tryz.underlying9 rfl ((cell_of_cells (hp.get 0 rfl) _).trans rfl)) ?_
  refine GL_rd (wn_on rfl rfl rfl rfl) rfl (rd_lenS rfl rfl Tryz.underlying9) ?_
  refine GL_rd (wn_on rfl rfl rfl rfl) rfl (rd_bin rfl rfl rfl bo_gtr) ?_
  refine GL_rd (v := .bool _) (wn_none rfl) rfl (rd_pickF rfl rfl rfl) ?_
  refine GL_rd (v := .bool _) (wn_none rfl) rfl (rd_assign rfl rfl) ?_
  refine GL_nil ?_
  refine GW_cond rfl (fun hb2 => ?_) (fun hb2 => ?_)
  ·(try simp only [decide_eq_true_eq, decide_eq_false_iff_not, Bool.not_eq_true', Bool.not_eq_false', Bool.not_eq_eq_eq_not, Bool.not_true, Bool.not_false, Int.not_lt, Int.not_le] at hb2)
   refine GW_seq ?_
   refine GW_region ?_
   refine GL_rd (v := .int _ _) (wn_none rfl) rfl (rd_assign rfl rfl) ?_
   refine GL_nil ?_
   refine GW_ret ?_
   have eh : buHd b = 10 := by rw [buHd, if_pos (by omega)]
   exact ⟨_, res1 Tryz.results11 (rv_tmp (v := .int _ _) rfl rfl), by rw [buK_hd (by rw [eh]; decide), eh], hp.mods⟩
  ·(try simp only [decide_eq_true_eq, decide_eq_false_iff_not, Bool.not_eq_true', Bool.not_eq_false', Bool.not_eq_eq_eq_not, Bool.not_true, Bool.not_false, Int.not_lt, Int.not_le] at hb2)
   refine GW_seq ?_
   refine GW_region ?_
   refine GL_rd (wn_none rfl) rfl (rd_field rfl rfl fa28_1 _ rfl) ?_
   refine GL_rd (wn_none rfl) rfl (rd_load rfl rfl Tryz.underlying3 rfl ((cell_of_cells (hp.get 0 rfl) _).trans rfl)) ?_
   refine GL_rd (wn_none rfl) rfl (rd_bin rfl rfl rfl bo_lss) ?_
   refine GL_rd (v := .bool _) (wn_none rfl) rfl (rd_move rfl rfl) ?_
   refine GL_split (t := 24) (b := _) rfl ?_ ?_
   ·intro hb3; (try simp only [decide_eq_true_eq, decide_eq_false_iff_not, Bool.not_eq_true', Bool.not_eq_false', Bool.not_eq_eq_eq_not, Bool.not_true, Bool.not_false, Int.not_lt, Int.not_le] at hb3)
    refine GL_pass (nw_off rfl rfl rfl rfl rfl) rfl ?_
    refine GL_pass (nw_off rfl rfl rfl rfl rfl) rfl ?_
    refine GL_pass (nw_off rfl rfl rfl rfl rfl) rfl ?_
    refine GL_rd (v := .bool _) (wn_none rfl) rfl (rd_pickT rfl rfl rfl) ?_
    refine GL_rd (v := .bool _) (wn_none rfl) rfl (rd_assign rfl rfl) ?_
    refine GL_nil ?_
    refine GW_true rfl ?_
    refine GW_seq ?_
    refine GW_region ?_
    refine GL_rd (v := .int _ _) (wn_none rfl) rfl (rd_assign rfl rfl) ?_
    refine GL_nil ?_
    refine GW_ret ?_
    have eh : buHd b = 2 := by rw [buHd, if_neg (by omega), if_pos (by omega)]
    exact ⟨_, res1 Tryz.results11 (rv_tmp (v := .int _ _) rfl rfl), by rw [buK_hd (by rw [eh]; decide), eh], hp.mods⟩
   ·intro hb3; (try simp only [decide_eq_true_eq, decide_eq_false_iff_not, Bool.not_eq_true', Bool.not_eq_false', Bool.not_eq_eq_eq_not, Bool.not_true, Bool.not_false, Int.not_lt, Int.not_le] at hb3)
    refine GL_rd (wn_on rfl rfl rfl rfl) rfl (rd_field rfl rfl fa28_1 _ rfl) ?_
    refine GL_rd (wn_on rfl rfl rfl rfl) rfl (rd_load rfl rfl Tryz.underlying3 rfl ((cell_of_cells (hp.get 0 rfl) _).trans rfl)) ?_
    refine GL_rd (wn_on rfl rfl rfl rfl) rfl (rd_bin rfl rfl rfl bo_gtr) ?_
    refine GL_rd (v := .bool _) (wn_none rfl) rfl (rd_pickF rfl rfl rfl) ?_
    refine GL_rd (v := .bool _) (wn_none rfl) rfl (rd_assign rfl rfl) ?_
    refine GL_nil ?_
    refine GW_cond rfl (fun hb4 => ?_) (fun hb4 => ?_)
    ·(try simp only [decide_eq_true_eq, decide_eq_false_iff_not, Bool.not_eq_true', Bool.not_eq_false', Bool.not_eq_eq_eq_not, Bool.not_true, Bool.not_false, Int.not_lt, Int.not_le] at hb4)
     refine GW_seq ?_
     refine GW_region ?_
     refine GL_rd (v := .int _ _) (wn_none rfl) rfl (rd_assign rfl rfl) ?_
     refine GL_nil ?_
     refine GW_ret ?_
     have eh : buHd b = 2 := by rw [buHd, if_neg (by omega), if_pos (by omega)]
     exact ⟨_, res1 Tryz.results11 (rv_tmp (v := .int _ _) rfl rfl), by rw [buK_hd (by rw [eh]; decide), eh], hp.mods⟩
    ·(try simp only [decide_eq_true_eq, decide_eq_false_iff_not, Bool.not_eq_true', Bool.not_eq_false', Bool.not_eq_eq_eq_not, Bool.not_true, Bool.not_false, Int.not_lt, Int.not_le] at hb4)
     refine GW_seq ?_
     refine GW_region ?_
     refine GL_rd (wn_none rfl) rfl (rd_field rfl rfl fa28_2 _ rfl) ?_
     refine GL_rd (wn_none rfl) rfl (rd_load rfl rfl Tryz.underlying9 rfl ((cell_of_cells (hp.get 0 rfl) _).trans rfl)) ?_
     refine GL_rd (wn_none rfl) rfl (rd_lenS rfl rfl Tryz.underlying9) ?_
     refine GL_rd (wn_none rfl) rfl (rd_bin rfl rfl rfl bo_gtr) ?_
     refine GL_rd (v := .bool _) (wn_none rfl) rfl (rd_assign rfl rfl) ?_
     refine GL_nil ?_
     refine GW_cond rfl (fun hb5 => ?_) (fun hb5 => ?_)
     ·(try simp only [decide_eq_true_eq, decide_eq_false_iff_not, Bool.not_eq_true', Bool.not_eq_false', Bool.not_eq_eq_eq_not, Bool.not_true, Bool.not_false, Int.not_lt, Int.not_le] at hb5)
      refine GW_seq ?_
      refine GW_region ?_
      refine GL_rd (v := .int _ _) (wn_none rfl) rfl (rd_assign rfl rfl) ?_
      refine GL_nil ?_
      refine GW_ret ?_
      have eh : buHd b = 15 := by rw [buHd, if_neg (by omega), if_neg (by omega), if_pos (by omega)]
      exact ⟨_, res1 Tryz.results11 (rv_tmp (v := .int _ _) rfl rfl), by rw [buK_hd (by rw [eh]; decide), eh], hp.mods⟩
     ·(try simp only [decide_eq_true_eq, decide_eq_false_iff_not, Bool.not_eq_true', Bool.not_eq_false', Bool.not_eq_eq_eq_not, Bool.not_true, Bool.not_false, Int.not_lt, Int.not_le] at hb5)
      refine GW_seq ?_
      refine GW_region ?_
      refine GL_rd (wn_none rfl) rfl (rd_field rfl rfl fa28_3 _ rfl) ?_
      refine GL_rd (v := .slice _ _ _) (wn_none rfl) rfl (rd_load rfl rfl Tryz.underlying22 rfl ((cell_of_cells (hp.get 0 rfl) _).trans rfl)) ?_
      refine GL_rd (wn_none rfl) rfl (rd_len rfl rfl Tryz.underlying22) ?_
      refine GL_rd (wn_none rfl) rfl (rd_bin rfl rfl rfl bo_lss) ?_
      refine GL_rd (v := .bool _) (wn_none rfl) rfl (rd_move rfl rfl) ?_
      refine GL_split (t := 39) (b := _) rfl ?_ ?_
      ·intro hb6; (try simp only [decide_eq_true_eq, decide_eq_false_iff_not, Bool.not_eq_true', Bool.not_eq_false', Bool.not_eq_eq_eq_not, Bool.not_true, Bool.not_false, Int.not_lt, Int.not_le] at hb6)
       refine GL_pass (nw_off rfl rfl rfl rfl rfl) rfl ?_
       refine GL_pass (nw_off rfl rfl rfl rfl rfl) rfl ?_
       refine GL_pass (nw_off rfl rfl rfl rfl rfl) rfl ?_
       refine GL_pass (nw_off rfl rfl rfl rfl rfl) rfl ?_
       refine GL_rd (v := .bool _) (wn_none rfl) rfl (rd_pickT rfl rfl rfl) ?_
       refine GL_rd (v := .bool _) (wn_none rfl) rfl (rd_assign rfl rfl) ?_
       refine GL_nil ?_
       refine GW_true rfl ?_
       refine GW_seq ?_
       refine GW_region ?_
       refine GL_rd (v := .int _ _) (wn_none rfl) rfl (rd_assign rfl rfl) ?_
       refine GL_nil ?_
       refine GW_ret ?_
       have eh : buHd b = 1 := by rw [buHd, if_neg (by omega), if_neg (by omega), if_neg (by omega), if_pos (by omega)]
       exact ⟨_, res1 Tryz.results11 (rv_tmp (v := .int _ _) rfl rfl), by rw [buK_hd (by rw [eh]; decide), eh], hp.mods⟩
      ·intro hb6; (try simp only [decide_eq_true_eq, decide_eq_false_iff_not, Bool.not_eq_true', Bool.not_eq_false', Bool.not_eq_eq_eq_not, Bool.not_true, Bool.not_false, Int.not_lt, Int.not_le] at hb6)
       refine GL_rd (wn_on rfl rfl rfl rfl) rfl (rd_field rfl rfl fa28_3 _ rfl) ?_
       refine GL_rd (v := .slice _ _ _) (wn_on rfl rfl rfl rfl) rfl (rd_load rfl rfl Tryz.underlying22 rfl ((cell_of_cells (hp.get 0 rfl) _).trans rfl)) ?_
       refine GL_rd (wn_on rfl rfl rfl rfl) rfl (rd_len rfl rfl Tryz.underlying22) ?_
       refine GL_rd (wn_on rfl rfl rfl rfl) rfl (rd_bin rfl rfl rfl bo_gtr) ?_
       refine GL_rd (v := .bool _) (wn_none rfl) rfl (rd_pickF rfl rfl rfl) ?_
       refine GL_rd (v := .bool _) (wn_none rfl) rfl (rd_assign rfl rfl) ?_
       refine GL_nil ?_
       refine GW_cond rfl (fun hb7 => ?_) (fun hb7 => ?_)
       ·(try simp only [decide_eq_true_eq, decide_eq_false_iff_not, Bool.not_eq_true', Bool.not_eq_false', Bool.not_eq_eq_eq_not, Bool.not_true, Bool.not_false, Int.not_lt, Int.not_le] at hb7)
        refine GW_seq ?_
        refine GW_region ?_
        refine GL_rd (v := .int _ _) (wn_none rfl) rfl (rd_assign rfl rfl) ?_
        refine GL_nil ?_
        refine GW_ret ?_
        have eh : buHd b = 1 := by rw [buHd, if_neg (by omega), if_neg (by omega), if_neg (by omega), if_pos (by omega)]
        exact ⟨_, res1 Tryz.results11 (rv_tmp (v := .int _ _) rfl rfl), by rw [buK_hd (by rw [eh]; decide), eh], hp.mods⟩
       ·(try simp only [decide_eq_true_eq, decide_eq_false_iff_not, Bool.not_eq_true', Bool.not_eq_false', Bool.not_eq_eq_eq_not, Bool.not_true, Bool.not_false, Int.not_lt, Int.not_le] at hb7)
        refine GW_seq ?_
        refine GW_region ?_
        refine GL_rd (wn_none rfl) rfl (rd_field rfl rfl fa28_4 _ rfl) ?_
        refine GL_rd (v := .slice _ _ _) (wn_none rfl) rfl (rd_load rfl rfl Tryz.underlying23 rfl ((cell_of_cells (hp.get 0 rfl) _).trans rfl)) ?_
        refine GL_rd (wn_none rfl) rfl (rd_len rfl rfl Tryz.underlying23) ?_
        refine GL_rd (wn_none rfl) rfl (rd_bin rfl rfl rfl bo_gtr) ?_
        refine GL_rd (v := .bool _) (wn_none rfl) rfl (rd_assign rfl rfl) ?_
        refine GL_nil ?_
        refine GW_cond rfl (fun hb8 => ?_) (fun hb8 => ?_)
        ·(try simp only [decide_eq_true_eq, decide_eq_false_iff_not, Bool.not_eq_true', Bool.not_eq_false', Bool.not_eq_eq_eq_not, Bool.not_true, Bool.not_false, Int.not_lt, Int.not_le] at hb8)
         refine GW_seq ?_
         refine GW_region ?_
         refine GL_rd (v := .int _ _) (wn_none rfl) rfl (rd_assign rfl rfl) ?_
         refine GL_nil ?_
         refine GW_ret ?_
         have eh : buHd b = 7 := by rw [buHd, if_neg (by omega), if_neg (by omega), if_neg (by omega), if_neg (by omega), if_pos (by omega)]
         exact ⟨_, res1 Tryz.results11 (rv_tmp (v := .int _ _) rfl rfl), by rw [buK_hd (by rw [eh]; decide), eh], hp.mods⟩
        ·(try simp only [decide_eq_true_eq, decide_eq_false_iff_not, Bool.not_eq_true', Bool.not_eq_false', Bool.not_eq_eq_eq_not, Bool.not_true, Bool.not_false, Int.not_lt, Int.not_le] at hb8)
         have eh : buHd b = 0 := buHd_ok.2 (by omega)
         refine GW_skip ?_
         refine GW_seq ?_
         refine GW_seq ?_
         refine GW_region ?_
         refine GL_rd (wn_none rfl) rfl (rd_field rfl rfl fa28_3 _ rfl) ?_
         refine GL_rd (v := .slice _ _ _) (wn_none rfl) rfl (rd_load rfl rfl Tryz.underlying22 rfl ((cell_of_cells (hp.get 0 rfl) _).trans rfl)) ?_
         refine GL_rd (wn_none rfl) rfl (rd_len rfl rfl Tryz.underlying22) ?_
         refine GL_rd (v := .int _ _) (wn_none rfl) rfl (rd_move rfl rfl) ?_
         refine GL_nil ?_
         refine GW_block ?_
         refine GW_loop ?_
         refine Lp_ind (α := Nat × Option Addr) (fun a_0 f_0 w' => match a_0 with | (i, At) => ∃ fz, f_0 = (upd (upd (upd (upd fz 51 (.slice At b.tx.length ct)) 52 (.int .i64 (b.tx.length : Int))) 53 (.int .i64 (i : Int))) 1 (.pointer (some ⟨g, 0, none⟩))) ∧ Hp w0 [] w' [cells g 28 (buC b (.slice At b.tx.length ct) (.slice Aa b.au.length ca))] ∧ (i ≤ b.tx.length) ∧ (Sl w0 (.slice At b.tx.length ct) 1 b.tx.length (b.tx.map Prod.fst)) ∧ (fbF txKs (b.tx.take i) = 0)) (fun a_0 => match a_0 with | (i, At) => b.tx.length - i) ?_ (0, At) _ _ ?_
         ·rintro ⟨i, At⟩ f wz ⟨fz, rfl, hp, hi0, htx, hz⟩ ihL0
          refine Lp_round ?_
          refine GW_seq ?_
          refine GW_region ?_
          refine GL_rd (wn_none rfl) rfl (rd_bin rfl rfl rfl bo_lss) ?_
          refine GL_nil ?_
          refine GW_seq ?_
          refine GW_cond rfl (fun hb9 => ?_) (fun hb9 => ?_)
          ·(try simp only [decide_eq_true_eq, decide_eq_false_iff_not, Bool.not_eq_true', Bool.not_eq_false', Bool.not_eq_eq_eq_not, Bool.not_true, Bool.not_false, Int.not_lt, Int.not_le] at hb9)
           obtain ⟨gT, bT, rfl⟩ := htx.addr (by rw [List.length_map]; omega)
           have hxm := getD_inL (l := b.tx) (i := i) (by omega)
           obtain ⟨Ax, cx, hsh⟩ := sl_shape (hB.txs _ hxm)
           have hxb := hSt _ hxm
           refine GW_skip ?_
           refine GW_seq ?_
           refine GW_block ?_
           refine GW_seq ?_
           refine GW_region ?_
           refine GL_rd (wn_none rfl) rfl (rd_indexS (j := i) rfl rfl rfl Tryz.underlying22 ts35 rfl (by omega) _ rfl) ?_
           refine GL_rd (v := .slice _ _ _) (wn_none rfl) rfl (rd_load rfl rfl Tryz.underlying35 rfl ((htx.keep hp.mod).get _ _ (by rw [Nat.mul_one]; exact (fstL_at (L := b.tx) (i := i) (by omega)).trans (congrArg some hsh)))) ?_
           refine GL_rd (v := .slice _ _ _) (wn_none rfl) rfl (rd_assign rfl rfl) ?_
           refine GL_nil ?_
           refine GW_seq ?_
           refine GW_region ?_
           refine GL_rd (v := .slice _ _ _) (wn_none rfl) rfl (rd_move rfl rfl) ?_
           refine GL_call (wn_none rfl) rfl rfl (chk_Check _ (b.tx.getD i default).2.length (b.tx.getD i default).2 _ (by have h := (hB.txs _ hxm).keep hp.mod; rw [hsh] at h; exact h)) rfl ?_
           rintro _ w ⟨rfl, hk⟩
           have hp := hp.comp hk
           refine GL_rd (v := .int .i64 (txKs (b.tx.getD i default))) (wn_none rfl) rfl (rd_assign rfl rfl) ?_
           refine GL_nil ?_
           refine GW_seq ?_
           refine GW_region ?_
           refine GL_rd (v := .int .i64 (txKs (b.tx.getD i default))) (wn_none rfl) rfl (rd_move rfl rfl) ?_
           refine GL_rd (wn_none rfl) rfl (rd_bin rfl rfl rfl bo_neq) ?_
           refine GL_nil ?_
           refine GW_cond rfl (fun hb10 => ?_) (fun hb10 => ?_)
           ·(try simp only [decide_eq_true_eq, decide_eq_false_iff_not, Bool.not_eq_true', Bool.not_eq_false', Bool.not_eq_eq_eq_not, Bool.not_true, Bool.not_false, Int.not_lt, Int.not_le] at hb10)
            have hne : ¬ txKs (b.tx.getD i default) = 0 := hb10
            refine GW_seq ?_
            refine GW_region ?_
            refine GL_rd (v := .int .i64 (txKs (b.tx.getD i default))) (wn_none rfl) rfl (rd_move rfl rfl) ?_
            refine GL_rd (v := .int .i64 (txKs (b.tx.getD i default))) (wn_none rfl) rfl (rd_assign rfl rfl) ?_
            refine GL_nil ?_
            refine GW_ret ?_
            have ef := fbF_stop (f := txKs) (l := b.tx) (i := i) (by omega) hz hne
            exact ⟨_, res1 Tryz.results11 (rv_tmp (v := .int .i64 (txKs (b.tx.getD i default))) rfl rfl), by rw [buK_tx eh (by rw [ef]; exact hne), ef], hp.mods⟩
           ·(try simp only [decide_eq_true_eq, decide_eq_false_iff_not, Bool.not_eq_true', Bool.not_eq_false', Bool.not_eq_eq_eq_not, Bool.not_true, Bool.not_false, Int.not_lt, Int.not_le] at hb10)
            have hnz : txKs (b.tx.getD i default) = 0 := hb10
            refine GW_skip ?_
            refine GW_region ?_
            refine GL_rd (wn_none rfl) rfl (rd_bin rfl rfl rfl (bo_add64 (by omega))) ?_
            refine GL_rd (v := .int _ _) (wn_none rfl) rfl (rd_move rfl rfl) ?_
            refine GL_nil ?_
            have hp := ((hp.front 0 rfl).take 1)
            exact ihL0 (i + 1, _) _ _ (by simp only []; omega) ⟨_, slots4 rfl rfl rfl rfl, hp, by omega, htx, fbF_next (by omega) hz hnz⟩
          ·(try simp only [decide_eq_true_eq, decide_eq_false_iff_not, Bool.not_eq_true', Bool.not_eq_false', Bool.not_eq_eq_eq_not, Bool.not_true, Bool.not_false, Int.not_lt, Int.not_le] at hb9)
           have hil : i = b.tx.length := by omega
           have hzt : fbF txKs b.tx = 0 := by rw [hil, List.take_length] at hz; exact hz
           refine GW_exit ?_
           refine GW_seq ?_
           refine GW_seq ?_
           refine GW_region ?_
           refine GL_rd (wn_none rfl) rfl (rd_field rfl rfl fa28_4 _ rfl) ?_
           refine GL_rd (v := .slice _ _ _) (wn_none rfl) rfl (rd_load rfl rfl Tryz.underlying23 rfl ((cell_of_cells (hp.get 0 rfl) _).trans rfl)) ?_
           refine GL_rd (wn_none rfl) rfl (rd_len rfl rfl Tryz.underlying23) ?_
           refine GL_rd (v := .int _ _) (wn_none rfl) rfl (rd_move rfl rfl) ?_
           refine GL_nil ?_
           refine GW_block ?_
           refine GW_loop ?_
           refine Lp_ind (α := Nat × Option Addr) (fun a_0 f_0 w' => match a_0 with | (i, Aa) => ∃ fz, f_0 = (upd (upd (upd fz 64 (.slice Aa b.au.length ca)) 65 (.int .i64 (b.au.length : Int))) 66 (.int .i64 (i : Int))) ∧ Hp w0 [] w' [cells g 28 (buC b (.slice At b.tx.length ct) (.slice Aa b.au.length ca))] ∧ (i ≤ b.au.length) ∧ (Sl w0 (.slice Aa b.au.length ca) 100 b.au.length (b.au.flatMap recC)) ∧ (fbF checkR (b.au.take i) = 0)) (fun a_0 => match a_0 with | (i, Aa) => b.au.length - i) ?_ (0, Aa) _ _ ?_
           ·rintro ⟨i, Aa⟩ f wz ⟨fz, rfl, hp, hi0, hau, hz⟩ ihL1
            refine Lp_round ?_
            refine GW_seq ?_
            refine GW_region ?_
            refine GL_rd (wn_none rfl) rfl (rd_bin rfl rfl rfl bo_lss) ?_
            refine GL_nil ?_
            refine GW_seq ?_
            refine GW_cond rfl (fun hb11 => ?_) (fun hb11 => ?_)
            ·(try simp only [decide_eq_true_eq, decide_eq_false_iff_not, Bool.not_eq_true', Bool.not_eq_false', Bool.not_eq_eq_eq_not, Bool.not_true, Bool.not_false, Int.not_lt, Int.not_le] at hb11)
             obtain ⟨gU, bU, rfl⟩ := hau.addr (by rw [flat_length recC_len]; omega)
             have hrz := hSa _ (recAt_mem (l := b.au) (i := i) (by omega))
             refine GW_skip ?_
             refine GW_seq ?_
             refine GW_block ?_
             refine GW_seq ?_
             refine GW_region ?_
             refine GL_rd (wn_none rfl) rfl (rd_indexS (j := i) rfl rfl rfl Tryz.underlying23 ts46 rfl (by omega) _ rfl) ?_
             refine GL_rd (wn_none rfl) rfl (rd_loadN (L := recC _) rfl rfl Tryz.underlying46 rfl ts46 (recC_len _) (fun jq u hj => Sl.recE (hau.keep hp.mod) i (by first | omega | assumption | exact Nat.lt_succ_self _) hj)) ?_
             refine GL_alloc (wn_none rfl) rfl rfl tz46 rfl hp ?_
             intro g2 w hp
             refine GL_store (i := 0) (wn_none rfl) rfl rfl rfl rfl ts46 rfl (recC_len _) (recC_one _) hp rfl (by first | exact Nat.le_of_ble_eq_true rfl | (rw [recC_len]; decide)) (splice_all _ _ (by first | rw [recC_len, recC_len] | (rw [recC_len]; rfl))) ?_
             intro w hp
             refine GL_nil ?_
             refine GW_seq ?_
             refine GW_region ?_
             refine GL_rd (wn_none rfl) rfl (rd_loadC rfl rfl Tryz.underlying46 rfl ts46 (hp.get 0 rfl) (recC_len _)) ?_
             refine GL_call (wn_none rfl) rfl rfl (aud_Check (recAt b.au i) _ hrz) rfl ?_
             rintro _ w ⟨rfl, hk⟩
             have hp := hp.comp hk
             refine GL_rd (v := .int _ _) (wn_none rfl) rfl (rd_assign rfl rfl) ?_
             refine GL_nil ?_
             refine GW_seq ?_
             refine GW_region ?_
             refine GL_rd (v := .int _ _) (wn_none rfl) rfl (rd_move rfl rfl) ?_
             refine GL_rd (wn_none rfl) rfl (rd_bin rfl rfl rfl bo_neq) ?_
             refine GL_nil ?_
             refine GW_cond rfl (fun hb12 => ?_) (fun hb12 => ?_)
             ·(try simp only [decide_eq_true_eq, decide_eq_false_iff_not, Bool.not_eq_true', Bool.not_eq_false', Bool.not_eq_eq_eq_not, Bool.not_true, Bool.not_false, Int.not_lt, Int.not_le] at hb12)
              have hne : ¬ checkR (recAt b.au i) = 0 := hb12
              refine GW_seq ?_
              refine GW_region ?_
              refine GL_rd (v := .int _ _) (wn_none rfl) rfl (rd_move rfl rfl) ?_
              refine GL_rd (v := .int _ _) (wn_none rfl) rfl (rd_assign rfl rfl) ?_
              refine GL_nil ?_
              refine GW_ret ?_
              have ef := fbF_stop (f := checkR) (l := b.au) (i := i) (by omega) hz hne
              exact ⟨_, res1 Tryz.results11 (rv_tmp (v := .int _ _) rfl rfl), by rw [buK_au eh hzt, ef]; rfl, hp.mods⟩
             ·(try simp only [decide_eq_true_eq, decide_eq_false_iff_not, Bool.not_eq_true', Bool.not_eq_false', Bool.not_eq_eq_eq_not, Bool.not_true, Bool.not_false, Int.not_lt, Int.not_le] at hb12)
              have hnz : checkR (recAt b.au i) = 0 := hb12
              refine GW_skip ?_
              refine GW_region ?_
              refine GL_rd (wn_none rfl) rfl (rd_bin rfl rfl rfl (bo_add64 (by omega))) ?_
              refine GL_rd (v := .int _ _) (wn_none rfl) rfl (rd_move rfl rfl) ?_
              refine GL_nil ?_
              have hp := ((hp.front 1 rfl).take 1)
              exact ihL1 (i + 1, _) _ _ (by simp only []; omega) ⟨_, slots3 rfl rfl rfl, hp, by omega, hau, fbF_next (by omega) hz hnz⟩
            ·(try simp only [decide_eq_true_eq, decide_eq_false_iff_not, Bool.not_eq_true', Bool.not_eq_false', Bool.not_eq_eq_eq_not, Bool.not_true, Bool.not_false, Int.not_lt, Int.not_le] at hb11)
             have hil : i = b.au.length := by omega
             rw [hil, List.take_length] at hz
             refine GW_exit ?_
             refine GW_seq ?_
             refine GW_region ?_
             refine GL_rd (v := .int _ _) (wn_none rfl) rfl (rd_assign rfl rfl) ?_
             refine GL_nil ?_
             refine GW_ret ?_
             exact ⟨_, res1 Tryz.results11 (rv_tmp (v := .int _ _) rfl rfl), by rw [buK_au eh hzt, hz], hp.mods⟩
           ·refine ⟨_, slots3 rfl rfl rfl, hp, Nat.zero_le _, hau, rfl⟩
         ·refine ⟨_, slots4 rfl rfl rfl rfl, hp, Nat.zero_le _, htx, rfl⟩
set_option maxHeartbeats 1000000 in
theorem bu_Address (b : Bu) (tv av : Value) (w0 : World) (hB : BuAt b tv av w0) (hS : BuSm b) : Does Tryz.prog 13 #[.agg ⟨buC b tv av⟩] w0 fun v w' => v = .agg ⟨bys (buAdr b).1⟩ ∧ Hp w0 [] w' [] := by
 obtain ⟨At, ct, rfl⟩ := sl_shape hB.tx
 obtain ⟨Aa, ca, rfl⟩ := sl_shape hB.au
 have htx := hB.tx
 have hau := hB.au
 obtain ⟨hSc, hSn, hSl, hSt, hSk, hSa⟩ := hS
 refine does_of (l := [.agg ⟨(buC b (.slice At b.tx.length ct) (.slice Aa b.au.length ca))⟩]) Tryz.func13 (by kernel_rfl) rfl Tryz.ntmps13 rfl rfl (by kernel_rfl) ?_
 have hp := Hp.refl w0 []
 refine GW_seq ?_
 refine GW_region ?_
 refine GL_box (wn_none rfl) rfl rfl rfl rfl hp ?_
 intro g w hp
 refine GL_alloc (wn_none rfl) rfl rfl tz30 rfl hp ?_
 intro g2 w hp
 refine GL_nil ?_
 refine GW_seq ?_
 refine GW_region ?_
 refine GL_rd (v := .slice _ _ _) (wn_none rfl) rfl (rd_assign rfl rfl) ?_
 refine GL_nil ?_
 refine GW_seq ?_
 refine GW_seq ?_
 refine GW_region ?_
 refine GL_rd (wn_none rfl) rfl (rd_field rfl rfl fa28_3 _ rfl) ?_
 refine GL_rd (v := .slice _ _ _) (wn_none rfl) rfl (rd_load rfl rfl Tryz.underlying22 rfl ((cell_of_cells (hp.get 1 rfl) _).trans rfl)) ?_
 refine GL_rd (wn_none rfl) rfl (rd_len rfl rfl Tryz.underlying22) ?_
 refine GL_rd (v := .int _ _) (wn_none rfl) rfl (rd_move rfl rfl) ?_
 refine GL_nil ?_
 refine GW_block ?_
 refine GW_loop ?_
 refine Lp_ind (α := Nat × Option Addr × Value) (fun a_0 f_0 w' => match a_0 with | (i, At, v) => ∃ fz, f_0 = (upd (upd (upd (upd (upd (upd fz 7 (.slice At b.tx.length ct)) 8 (.int .i64 (b.tx.length : Int))) 9 (.int .i64 (i : Int))) 3 (v)) 1 (.pointer (some ⟨g, 0, none⟩))) 2 (.pointer (some ⟨g2, 0, none⟩))) ∧ Hp w0 [] w' [.row 30 32 v i ((buAds (b.tx.take i)).flatMap adC), cells g2 30 (List.replicate 32 (.int .u8 0)), cells g 28 (buC b (.slice At b.tx.length ct) (.slice Aa b.au.length ca))] ∧ (i ≤ b.tx.length) ∧ (Sl w0 (.slice At b.tx.length ct) 1 b.tx.length (b.tx.map Prod.fst))) (fun a_0 => match a_0 with | (i, At, v) => b.tx.length - i) ?_ (0, At, .slice none 0 0) _ _ ?_
 ·rintro ⟨i, At, v⟩ f wz ⟨fz, rfl, hp, hi0, htx⟩ ihL0
  refine Lp_round ?_
  refine GW_seq ?_
  refine GW_region ?_
  refine GL_rd (wn_none rfl) rfl (rd_bin rfl rfl rfl bo_lss) ?_
  refine GL_nil ?_
  refine GW_seq ?_
  refine GW_cond rfl (fun hb => ?_) (fun hb => ?_)
  ·(try simp only [decide_eq_true_eq, decide_eq_false_iff_not, Bool.not_eq_true', Bool.not_eq_false', Bool.not_eq_eq_eq_not, Bool.not_true, Bool.not_false, Int.not_lt, Int.not_le] at hb)
   obtain ⟨gT, bT, rfl⟩ := htx.addr (by rw [List.length_map]; omega)
   have hxm := getD_inL (l := b.tx) (i := i) (by omega)
   obtain ⟨Ax, cx, hsh⟩ := sl_shape (hB.txs _ hxm)
   have hxb := hSt _ hxm
   refine GW_skip ?_
   refine GW_seq ?_
   refine GW_block ?_
   refine GW_seq ?_
   refine GW_region ?_
   refine GL_rd (wn_none rfl) rfl (rd_indexS (j := i) rfl rfl rfl Tryz.underlying22 ts35 rfl (by omega) _ rfl) ?_
   refine GL_rd (v := .slice _ _ _) (wn_none rfl) rfl (rd_load rfl rfl Tryz.underlying35 rfl ((htx.keep hp.mod).get _ _ (by rw [Nat.mul_one]; exact (fstL_at (L := b.tx) (i := i) (by omega)).trans (congrArg some hsh)))) ?_
   refine GL_rd (v := .slice _ _ _) (wn_none rfl) rfl (rd_assign rfl rfl) ?_
   refine GL_nil ?_
   refine GW_region ?_
   refine GL_rd (v := v) (wn_none rfl) rfl (rd_move rfl rfl) ?_
   refine GL_rd (v := .slice _ _ _) (wn_none rfl) rfl (rd_move rfl rfl) ?_
   refine GL_call (wn_none rfl) rfl rfl (chk_Text _ (b.tx.getD i default).2 _ (by have h := (hB.txs _ hxm).keep hp.mod; rw [hsh] at h; exact h) (by omega)) rfl ?_
   rintro _ w ⟨rfl, hk⟩
   have hp := hp.comp hk
   refine GL_lit1 (L := (bys (txOf (b.tx.getD i default).2).1)) (wn_none rfl) rfl rfl rfl rfl Tryz.underlying50 ts30 tz30 (by kernel_rfl) (by rw [bys_length]; exact (txOf _).2) hp ?_
   intro g3 w hp
   refine GL_append (i := 1) (wn_none rfl) rfl rfl rfl rfl Tryz.underlying50 ti30 rfl (by decide) hp rfl (Sl.row (hp.get 0 rfl)) (bys_one _) (by omega) (by omega) ?_
   intro v w hp
   refine GL_rd (v := v) (wn_none rfl) rfl (rd_assign rfl rfl) ?_
   refine GL_nil ?_
   refine GW_region ?_
   refine GL_rd (wn_none rfl) rfl (rd_bin rfl rfl rfl (bo_add64 (by omega))) ?_
   refine GL_rd (v := .int _ _) (wn_none rfl) rfl (rd_move rfl rfl) ?_
   refine GL_nil ?_
   have hp := ((((hp.front 3 rfl).front 3 rfl).front 3 rfl).take 3)
   have hp := hp.cast (show _ = [.row 30 32 v (i + 1) ((buAds (b.tx.take (i + 1))).flatMap adC), cells g2 30 (List.replicate 32 (.int .u8 0)), cells g 28 (buC b (.slice (some ⟨gT, bT, none⟩) b.tx.length ct) (.slice Aa b.au.length ca))] by rw [buAds_snoc (by omega), List.flatMap_append, List.flatMap_singleton]; rfl)
   exact ihL0 (i + 1, _, _) _ _ (by simp only []; omega) ⟨_, slots6 rfl rfl rfl rfl rfl rfl, hp, by omega, htx⟩
  ·(try simp only [decide_eq_true_eq, decide_eq_false_iff_not, Bool.not_eq_true', Bool.not_eq_false', Bool.not_eq_eq_eq_not, Bool.not_true, Bool.not_false, Int.not_lt, Int.not_le] at hb)
   have hil : i = b.tx.length := by omega
   rw [hil, List.take_length] at hp
   refine GW_exit ?_
   refine GW_seq ?_
   refine GW_region ?_
   refine GL_rd (wn_none rfl) rfl (rd_field rfl rfl fa28_0 _ rfl) ?_
   refine GL_rd (wn_none rfl) rfl (rd_load rfl rfl Tryz.underlying9 rfl ((cell_of_cells (hp.get 2 rfl) _).trans rfl)) ?_
   refine GL_rd (wn_none rfl) rfl (rd_field rfl rfl fa28_1 _ rfl) ?_
   refine GL_rd (wn_none rfl) rfl (rd_load rfl rfl Tryz.underlying3 rfl ((cell_of_cells (hp.get 2 rfl) _).trans rfl)) ?_
   refine GL_rd (wn_none rfl) rfl (rd_field rfl rfl fa28_2 _ rfl) ?_
   refine GL_rd (wn_none rfl) rfl (rd_load rfl rfl Tryz.underlying9 rfl ((cell_of_cells (hp.get 2 rfl) _).trans rfl)) ?_
   refine GL_rd (v := v) (wn_none rfl) rfl (rd_move rfl rfl) ?_
   refine GL_call (wn_none rfl) rfl rfl (bi_Address b.cls b.note b.made _ b.tx.length (buAds b.tx) _ (Sl.row (hp.get 0 rfl)) ⟨hSc, hSn⟩ hSl) rfl ?_
   rintro _ w ⟨rfl, hk⟩
   have hp := hp.comp hk
   refine GL_store (i := 1) (wn_none rfl) rfl rfl rfl rfl ts30 rfl (by rw [bys_length]; exact (buAdr b).2) (bys_one _) hp rfl (Nat.le_of_ble_eq_true rfl) (splice_all _ _ (by rw [bys_length]; exact (buAdr b).2.trans rfl)) ?_
   intro w hp
   refine GL_nil ?_
   refine GW_ret ?_
   exact ⟨_, res1 Tryz.results13 (rv_cell rfl rfl Tryz.underlying30 rfl ts30 (by rw [bys_length]; exact (buAdr b).2) (hp.get 1 rfl)), rfl, hp.mods⟩
 ·have hp := hp.nilRow 30 32
  refine ⟨_, slots6 rfl rfl rfl rfl rfl rfl, hp, Nat.zero_le _, htx⟩
theorem bu_field (sv : Value) (l : List UInt8) (w0 : World) (hI : Sl w0 sv 1 l.length (bys l)) (hb : l.length ≤ 65535) : Does Tryz.prog 26 #[sv] w0 fun v w' => Hp w0 [] w' [.row 5 1 v (fldL l).length (bys (fldL l))] := by
 obtain ⟨A, c, rfl⟩ := sl_shape hI
 refine does_of (l := [.slice A l.length c]) Tryz.func26 (by kernel_rfl) rfl Tryz.ntmps26 rfl rfl (by kernel_rfl) ?_
 have hp := Hp.refl w0 []
 refine GW_seq ?_
 refine GW_region ?_
 refine GL_rd (v := .slice _ _ _) (wn_none rfl) rfl (rd_assign rfl rfl) ?_
 refine GL_nil ?_
 refine GW_seq ?_
 refine GW_region ?_
 refine GL_rd (v := .slice _ _ _) (wn_none rfl) rfl (rd_move rfl rfl) ?_
 refine GL_rd (wn_none rfl) rfl (rd_len rfl rfl Tryz.underlying35) ?_
 refine GL_rd (wn_none rfl) rfl (rd_convE (q := (l.length : Int)) rfl rfl Tryz.underlying62 Tryz.underlying3 (by simp) (IntWalk.u64_in _ (by omega))) ?_
 refine GL_call (wn_none rfl) rfl rfl (word_Put l.length 2 _ (by omega) (by decide)) rfl ?_
 rintro _ w ⟨q, rfl, hk⟩
 have hp := hp.comp hk
 refine GL_rd (v := .slice _ _ _) (wn_none rfl) rfl (rd_move rfl rfl) ?_
 refine GL_append (i := 0) (wn_none rfl) rfl rfl rfl rfl Tryz.underlying35 ti5 rfl (by decide) hp rfl (hI.keep hp.mod) (bys_one _) (by omega) (by omega) ?_
 intro v w hp
 rw [← bys_append] at hp
 refine GL_rd (v := v) (wn_none rfl) rfl (rd_assign rfl rfl) ?_
 refine GL_nil ?_
 refine GW_ret ?_
 have hp := ((hp.front 0 rfl).take 1)
 have hp := hp.cast (show _ = [Res.row 5 1 v _ (bys (fldL l))] from rfl)
 have en := row_n (hp.get 0 rfl)
 rw [en] at hp
 exact ⟨_, res1 Tryz.results26 (rv_tmp (v := v) rfl rfl), hp⟩
set_option maxHeartbeats 1000000 in
theorem bu_Seal (b : Bu) (tv av : Value) (w0 : World) (hB : BuAt b tv av w0) (hS : BuSm b) : Does Tryz.prog 7 #[.agg ⟨buC b tv av⟩] w0 fun v w' => v = .tuple #[.agg ⟨bys (buSeal b).1⟩, .int .i64 (buK b)] ∧ Hp w0 [] w' [] := by
 have hS0 := hS
 obtain ⟨At, ct, rfl⟩ := sl_shape hB.tx
 obtain ⟨Aa, ca, rfl⟩ := sl_shape hB.au
 have htx := hB.tx
 have hau := hB.au
 obtain ⟨hSc, hSn, hSl, hSt, hSk, hSa⟩ := hS
 refine does_of (l := [.agg ⟨(buC b (.slice At b.tx.length ct) (.slice Aa b.au.length ca))⟩]) Tryz.func7 (by kernel_rfl) rfl Tryz.ntmps7 rfl rfl (by kernel_rfl) ?_
 have hp := Hp.refl w0 []
 refine GW_seq ?_
 refine GW_region ?_
 refine GL_box (wn_none rfl) rfl rfl rfl rfl hp ?_
 intro g w hp
 refine GL_alloc (wn_none rfl) rfl rfl tz30 rfl hp ?_
 intro g2 w hp
 refine GL_rd (v := .int _ _) (wn_none rfl) rfl (rd_assign rfl rfl) ?_
 refine GL_nil ?_
 refine GW_seq ?_
 refine GW_seq ?_
 refine GW_region ?_
 refine GL_rd (wn_none rfl) rfl (rd_loadC rfl rfl Tryz.underlying28 rfl ts28 (hp.get 1 rfl) (by first | (rw [bys_length]; first | exact a32_len _) | rfl | simp [bys_length, *])) ?_
 refine GL_call (wn_none rfl) rfl rfl (bu_Check b _ _ _ (hB.keep hp.mod) hS0) rfl ?_
 rintro _ w ⟨rfl, hk⟩
 have hp := hp.comp hk
 refine GL_rd (v := .int .i64 (buK b)) (wn_none rfl) rfl (rd_assign rfl rfl) ?_
 refine GL_nil ?_
 refine GW_seq ?_
 refine GW_region ?_
 refine GL_rd (v := .int .i64 (buK b)) (wn_none rfl) rfl (rd_move rfl rfl) ?_
 refine GL_rd (wn_none rfl) rfl (rd_bin rfl rfl rfl bo_neq) ?_
 refine GL_nil ?_
 refine GW_cond rfl (fun hb => ?_) (fun hb => ?_)
 ·(try simp only [decide_eq_true_eq, decide_eq_false_iff_not, Bool.not_eq_true', Bool.not_eq_false', Bool.not_eq_eq_eq_not, Bool.not_true, Bool.not_false, Int.not_lt, Int.not_le] at hb)
  have hc : ¬ buK b = 0 := hb
  refine GW_seq ?_
  refine GW_region ?_
  refine GL_rd (wn_none rfl) rfl (rd_buildA (L := List.replicate 32 (.int .u8 0)) rfl tz30 Tryz.underlying30 ts5 (by kernel_rfl)) ?_
  refine GL_rd (v := .int .i64 (buK b)) (wn_none rfl) rfl (rd_move rfl rfl) ?_
  refine GL_store (i := 0) (wn_none rfl) rfl rfl rfl rfl ts30 rfl List.length_replicate (by intro u hu; rw [List.eq_of_mem_replicate hu]; rfl) hp rfl (Nat.le_of_ble_eq_true rfl) (splice_all _ _ rfl) ?_
  intro w hp
  refine GL_rd (v := .int .i64 (buK b)) (wn_none rfl) rfl (rd_assign rfl rfl) ?_
  refine GL_nil ?_
  refine GW_ret ?_
  exact ⟨_, res2 Tryz.results7 (rv_cell rfl rfl Tryz.underlying30 rfl ts30 (by first | exact List.length_replicate | (rw [bys_length]; exact (buSeal _).2)) (hp.get 0 rfl)) (rv_tmp (v := .int .i64 (buK b)) rfl rfl), by rw [buSeal_no hc]; rfl, hp.mods⟩
 ·(try simp only [decide_eq_true_eq, decide_eq_false_iff_not, Bool.not_eq_true', Bool.not_eq_false', Bool.not_eq_eq_eq_not, Bool.not_true, Bool.not_false, Int.not_lt, Int.not_le] at hb)
  have hc : buK b = 0 := hb
  have hd := buHd_ok.1 (buK_ok hc).1
  refine GW_skip ?_
  refine GW_seq ?_
  refine GW_region ?_
  refine GL_rd (wn_none rfl) rfl (rd_loadC rfl rfl Tryz.underlying28 rfl ts28 (hp.get 1 rfl) (by first | (rw [bys_length]; first | exact a32_len _) | rfl | simp [bys_length, *])) ?_
  refine GL_call (wn_none rfl) rfl rfl (bu_Address b _ _ _ (hB.keep hp.mod) hS0) rfl ?_
  rintro _ w ⟨rfl, hk⟩
  have hp := hp.comp hk
  refine GL_alloc (wn_none rfl) rfl rfl tz30 rfl hp ?_
  intro g3 w hp
  refine GL_store (i := 0) (wn_none rfl) rfl rfl rfl rfl ts30 rfl (by rw [bys_length]; exact (buAdr b).2) (bys_one _) hp rfl (Nat.le_of_ble_eq_true rfl) (splice_all _ _ (by rw [bys_length]; exact (buAdr b).2.trans rfl)) ?_
  intro w hp
  refine GL_nil ?_
  refine GW_seq ?_
  refine GW_region ?_
  refine GL_rd (wn_none rfl) rfl (rd_sliceA (lo := 0) (hi := 32) rfl rfl Tryz.underlying30 ts5 at_none to_none (by decide) (by decide) (by decide) _ rfl) ?_
  refine GL_lit (L := [.slice (some ⟨g3, 0, none⟩) 32 32]) (wn_none rfl) rfl rfl Tryz.underlying22 ts35 tz35 rfl (by kernel_rfl) rfl rfl hp ?_
  intro g4 w hp
  refine GL_rd (v := .slice _ _ _) (wn_none rfl) rfl (rd_assign rfl rfl) ?_
  refine GL_nil ?_
  refine GW_seq ?_
  refine GW_region ?_
  refine GL_rd (v := .slice _ _ _) (wn_none rfl) rfl (rd_move rfl rfl) ?_
  refine GL_rd (wn_none rfl) rfl (rd_field rfl rfl fa28_3 _ rfl) ?_
  refine GL_rd (v := .slice _ _ _) (wn_none rfl) rfl (rd_load rfl rfl Tryz.underlying22 rfl ((cell_of_cells (hp.get 3 rfl) _).trans rfl)) ?_
  refine GL_append (i := 0) (wn_none rfl) rfl rfl rfl rfl Tryz.underlying22 ti35 rfl (by decide) hp rfl (htx.keep hp.mod) hB.one (by omega) (by omega) ?_
  intro v w hp
  refine GL_rd (v := v) (wn_none rfl) rfl (rd_assign rfl rfl) ?_
  refine GL_nil ?_
  refine GW_seq ?_
  refine GW_seq ?_
  refine GW_region ?_
  refine GL_rd (wn_none rfl) rfl (rd_field rfl rfl fa28_4 _ rfl) ?_
  refine GL_rd (v := .slice _ _ _) (wn_none rfl) rfl (rd_load rfl rfl Tryz.underlying23 rfl ((cell_of_cells (hp.get 3 rfl) _).trans rfl)) ?_
  refine GL_rd (wn_none rfl) rfl (rd_len rfl rfl Tryz.underlying23) ?_
  refine GL_rd (v := .int _ _) (wn_none rfl) rfl (rd_move rfl rfl) ?_
  refine GL_nil ?_
  refine GW_block ?_
  refine GW_loop ?_
  refine Lp_ind (α := Nat × Option Addr × Nat × Value × List (Value × List UInt8) × Nat) (fun a_0 f_0 w' => match a_0 with | (i, Aa, n, v, Lp, ga) => ∃ fz, f_0 = (upd (upd (upd (upd (upd (upd fz 26 (.slice Aa b.au.length ca)) 27 (.int .i64 (b.au.length : Int))) 28 (.int .i64 (i : Int))) 6 (v)) 5 (.pointer (some ⟨ga, 0, none⟩))) 2 (.pointer (some ⟨g2, 0, none⟩))) ∧ Hp w0 [] w' [.row 35 1 v n (((.slice (some ⟨ga, 0, none⟩) 32 32, (buAdr b).1) :: (b.tx ++ Lp)).map Prod.fst), packL (rowsZ 5 Lp), cells ga 30 (bys (buAdr b).1), cells g2 30 (List.replicate 32 (.int .u8 0)), cells g 28 (buC b (.slice At b.tx.length ct) (.slice Aa b.au.length ca))] ∧ (i ≤ b.au.length) ∧ (Sl w0 (.slice Aa b.au.length ca) 100 b.au.length (b.au.flatMap recC)) ∧ (n = 1 + b.tx.length + i) ∧ (Lp.length = i) ∧ (Lp.map Prod.snd = (b.au.take i).map putB) ∧ (∀ x ∈ Lp, x.2.length ≤ 155)) (fun a_0 => match a_0 with | (i, Aa, n, v, Lp, ga) => b.au.length - i) ?_ (0, Aa, 1 + b.tx.length, v, [], g3) _ _ ?_
  ·rintro ⟨i, Aa, n, v, Lp, ga⟩ f wz ⟨fz, rfl, hp, hi0, hau, hn, hLl, hLs, hLb⟩ ihL0
   refine Lp_round ?_
   refine GW_seq ?_
   refine GW_region ?_
   refine GL_rd (wn_none rfl) rfl (rd_bin rfl rfl rfl bo_lss) ?_
   refine GL_nil ?_
   refine GW_seq ?_
   refine GW_cond rfl (fun hb2 => ?_) (fun hb2 => ?_)
   ·(try simp only [decide_eq_true_eq, decide_eq_false_iff_not, Bool.not_eq_true', Bool.not_eq_false', Bool.not_eq_eq_eq_not, Bool.not_true, Bool.not_false, Int.not_lt, Int.not_le] at hb2)
    obtain ⟨gU, bU, rfl⟩ := hau.addr (by rw [flat_length recC_len]; omega)
    have hrz := hSa _ (recAt_mem (l := b.au) (i := i) (by omega))
    have hpl := putB_le (recAt b.au i)
    refine GW_skip ?_
    refine GW_seq ?_
    refine GW_block ?_
    refine GW_seq ?_
    refine GW_region ?_
    refine GL_rd (wn_none rfl) rfl (rd_indexS (j := i) rfl rfl rfl Tryz.underlying23 ts46 rfl (by omega) _ rfl) ?_
    refine GL_rd (wn_none rfl) rfl (rd_loadN (L := recC _) rfl rfl Tryz.underlying46 rfl ts46 (recC_len _) (fun jq u hj => Sl.recE (hau.keep hp.mod) i (by first | omega | assumption | exact Nat.lt_succ_self _) hj)) ?_
    refine GL_alloc (wn_none rfl) rfl rfl tz46 rfl hp ?_
    intro g5 w hp
    refine GL_store (i := 0) (wn_none rfl) rfl rfl rfl rfl ts46 rfl (recC_len _) (recC_one _) hp rfl (by first | exact Nat.le_of_ble_eq_true rfl | (rw [recC_len]; decide)) (splice_all _ _ (by first | rw [recC_len, recC_len] | (rw [recC_len]; rfl))) ?_
    intro w hp
    refine GL_nil ?_
    refine GW_seq ?_
    refine GW_region ?_
    refine GL_rd (wn_none rfl) rfl (rd_loadC rfl rfl Tryz.underlying46 rfl ts46 (hp.get 0 rfl) (recC_len _)) ?_
    refine GL_call (wn_none rfl) rfl rfl (aud_Put (recAt b.au i) _ hrz) rfl ?_
    rintro _ w ⟨vb, rfl, hk⟩
    have hp := hp.comp hk
    obtain ⟨Ab, cb, rfl⟩ := row_shape (hp.get 0 rfl)
    refine GL_rd (v := .tuple _) (wn_none rfl) rfl (rd_move rfl rfl) ?_
    refine GL_rd (v := .slice _ _ _) (wn_none rfl) rfl (rd_extract rfl rfl rfl) ?_
    refine GL_rd (v := .int _ _) (wn_none rfl) rfl (rd_extract rfl rfl rfl) ?_
    refine GL_rd (v := .slice _ _ _) (wn_none rfl) rfl (rd_assign rfl rfl) ?_
    refine GL_rd (v := .int _ _) (wn_none rfl) rfl (rd_assign rfl rfl) ?_
    refine GL_nil ?_
    refine GW_region ?_
    refine GL_rd (v := v) (wn_none rfl) rfl (rd_move rfl rfl) ?_
    refine GL_rd (v := .slice _ _ _) (wn_none rfl) rfl (rd_move rfl rfl) ?_
    refine GL_lit (L := [.slice Ab (putB (recAt b.au i)).length cb]) (wn_none rfl) rfl rfl Tryz.underlying22 ts35 tz35 rfl (by kernel_rfl) rfl rfl hp ?_
    intro g6 w hp
    refine GL_append (i := 3) (wn_none rfl) rfl rfl rfl rfl Tryz.underlying22 ti35 rfl (by decide) hp rfl (Sl.row (hp.get 0 rfl)) (one1 rfl) (by omega) (by omega) ?_
    intro v2 w hp
    refine GL_rd (v := v2) (wn_none rfl) rfl (rd_assign rfl rfl) ?_
    refine GL_nil ?_
    refine GW_region ?_
    refine GL_rd (wn_none rfl) rfl (rd_bin rfl rfl rfl (bo_add64 (by omega))) ?_
    refine GL_rd (v := .int _ _) (wn_none rfl) rfl (rd_move rfl rfl) ?_
    refine GL_nil ?_
    have hp := (((((((hp.front 3 rfl).front 7 rfl).front 7 rfl).front 7 rfl).front 7 rfl).front 6 rfl).take 6)
    have hp := hp.rowsZ_in
    have hp := hp.cast (show _ = [packL (rowsZ 5 (Lp ++ [(Value.slice Ab (putB (recAt b.au i)).length cb, putB (recAt b.au i))])), cells ga 30 (bys (buAdr b).1), cells g2 30 (List.replicate 32 (.int .u8 0)), cells g 28 (buC b (.slice At b.tx.length ct) (.slice (some ⟨gU, bU, none⟩) b.au.length ca)), .row 35 1 v2 (n + 1) (((.slice (some ⟨ga, 0, none⟩) 32 32, (buAdr b).1) :: (b.tx ++ (Lp ++ [(Value.slice Ab (putB (recAt b.au i)).length cb, putB (recAt b.au i))]))).map Prod.fst)] by rw [lst_snoc]; rfl)
    have hp := hp.front 4 rfl
    exact ihL0 (i + 1, _, _, _, Lp ++ [(Value.slice Ab (putB (recAt b.au i)).length cb, putB (recAt b.au i))], _) _ _ (by simp only []; omega) ⟨_, slots6 rfl rfl rfl rfl rfl rfl, hp, by omega, hau, by omega, by rw [List.length_append, hLl]; rfl, by rw [List.map_append, hLs, put_snoc (by omega)]; rfl, fun x hx => by rcases List.mem_append.1 hx with h | h; exact hLb x h; rw [List.mem_singleton.1 h]; exact hpl⟩
   ·(try simp only [decide_eq_true_eq, decide_eq_false_iff_not, Bool.not_eq_true', Bool.not_eq_false', Bool.not_eq_eq_eq_not, Bool.not_true, Bool.not_false, Int.not_lt, Int.not_le] at hb2)
    have hil : i = b.au.length := by omega
    rw [hil, List.take_length] at hLs
    refine GW_exit ?_
    refine GW_seq ?_
    refine GW_region ?_
    refine GL_rd (v := v) (wn_none rfl) rfl (rd_move rfl rfl) ?_
    have hsn : ((.slice (some ⟨ga, 0, none⟩) 32 32, (buAdr b).1) :: (b.tx ++ Lp)).map Prod.snd = buTh b := by rw [List.map_cons, List.map_append, hLs]; rfl
    obtain ⟨er, ek⟩ := bu_root hc hsn
    have hll : ((.slice (some ⟨ga, 0, none⟩) 32 32, (buAdr b).1) :: (b.tx ++ Lp)).length = 1 + b.tx.length + b.au.length := by rw [List.length_cons, List.length_append, hLl]; omega
    refine GL_call (wn_none rfl) rfl rfl (tr_Root _ ((.slice (some ⟨ga, 0, none⟩) 32 32, (buAdr b).1) :: (b.tx ++ Lp)) _ (by rw [show ((.slice (some ⟨ga, 0, none⟩) 32 32, (buAdr b).1) :: (b.tx ++ Lp)).length = n by omega]; exact Sl.row (hp.get 0 rfl)) (by intro x hx; rcases List.mem_cons.1 hx with rfl | hx; exact Sl.ofA (hp.get 2 rfl); rcases List.mem_append.1 hx with hx | hx; exact (hB.txs x hx).keep hp.mod; exact rowsZ_sl (hp.get 1 rfl) x hx) ⟨by omega, by intro x hx; rcases List.mem_cons.1 hx with rfl | hx; (show (buAdr b).1.length ≤ 65536; rw [(buAdr b).2]; decide); rcases List.mem_append.1 hx with hx | hx; (have := hSt x hx; omega); (have := hLb x hx; omega)⟩) rfl ?_
    rintro v0 w ⟨hv, hk⟩
    have hp := hp.comp hk
    obtain rfl : v0 = .tuple #[.agg ⟨bys (buSeal b).1⟩, .int .i64 0] := hv.trans (by rw [er, ek])
    refine GL_rd (v := .agg ⟨_⟩) (wn_none rfl) rfl (rd_extract rfl rfl rfl) ?_
    refine GL_rd (v := .int _ _) (wn_none rfl) rfl (rd_extract rfl rfl rfl) ?_
    refine GL_store (i := 3) (wn_none rfl) rfl rfl rfl rfl ts30 rfl (by rw [bys_length]; exact (buSeal b).2) (bys_one _) hp rfl (Nat.le_of_ble_eq_true rfl) (splice_all _ _ (by rw [bys_length]; exact (buSeal b).2.trans rfl)) ?_
    intro w hp
    refine GL_rd (v := .int _ _) (wn_none rfl) rfl (rd_assign rfl rfl) ?_
    refine GL_nil ?_
    refine GW_ret ?_
    exact ⟨_, res2 Tryz.results7 (rv_cell rfl rfl Tryz.underlying30 rfl ts30 (by first | exact List.length_replicate | (rw [bys_length]; exact (buSeal _).2)) (hp.get 3 rfl)) (rv_tmp (v := .int _ _) rfl rfl), by rw [hc], hp.mods⟩
  ·have hp := hp.packNil
   have hp := ((((((hp.front 4 rfl).front 4 rfl).front 4 rfl).front 3 rfl).front 4 rfl).take 5)
   have hp := hp.cast (show _ = [.row 35 1 v (1 + b.tx.length) (((.slice (some ⟨g3, 0, none⟩) 32 32, (buAdr b).1) :: (b.tx ++ [])).map Prod.fst), packL (rowsZ 5 []), cells g3 30 (bys (buAdr b).1), cells g2 30 (List.replicate 32 (.int .u8 0)), cells g 28 (buC b (.slice At b.tx.length ct) (.slice Aa b.au.length ca))] by rw [List.append_nil]; rfl)
   refine ⟨_, slots6 rfl rfl rfl rfl rfl rfl, hp, Nat.zero_le _, hau, rfl, rfl, rfl, fun x hx => by cases hx⟩
end Go.Proofs.YtpagpmioopaciaaGreat
