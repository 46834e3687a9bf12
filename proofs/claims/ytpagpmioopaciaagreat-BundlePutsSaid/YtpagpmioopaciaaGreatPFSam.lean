/- Walks of functions of the program. -/
import Derived.Test.YtpagpmioopaciaaGreatPFTry
set_option linter.unusedVariables false
set_option linter.unusedSimpArgs false
namespace Go.Proofs.YtpagpmioopaciaaGreat
open Go.Mo Go.RowKit
set_option maxHeartbeats 1000000 in
theorem bu_Same (a b : Bu) (ta aa tb ab : Value) (w0 : World) (hA : BuAt a ta aa w0) (hB : BuAt b tb ab w0) : Does Tryz.prog 20 #[.agg ⟨buC a ta aa⟩, .agg ⟨buC b tb ab⟩] w0 fun v w' => v = .bool (decide (sameQ a b)) ∧ Hp w0 [] w' [] := by
 obtain ⟨At, ct, rfl⟩ := sl_shape hA.tx
 obtain ⟨Aa, ca, rfl⟩ := sl_shape hA.au
 obtain ⟨Bt, dt, rfl⟩ := sl_shape hB.tx
 obtain ⟨Ba, da, rfl⟩ := sl_shape hB.au
 have hle2 := hA.tx.le
 have hle4 := hA.au.le
 have h2a := hA.tx
 have h2b := hB.tx
 have h4a := hA.au
 have h4b := hB.au
 refine does_of (l := [.agg ⟨(buC a (.slice At a.tx.length ct) (.slice Aa a.au.length ca))⟩, .agg ⟨(buC b (.slice Bt b.tx.length dt) (.slice Ba b.au.length da))⟩]) Tryz.func20 (by kernel_rfl) rfl Tryz.ntmps20 rfl rfl (by kernel_rfl) ?_
 have hp := Hp.refl w0 []
 refine GW_seq ?_
 refine GW_region ?_
 refine GL_box (wn_none rfl) rfl rfl rfl rfl hp ?_
 intro g w hp
 refine GL_box (wn_none rfl) rfl rfl rfl rfl hp ?_
 intro g2 w hp
 refine GL_rd (v := .bool _) (wn_none rfl) rfl (rd_assign rfl rfl) ?_
 refine GL_nil ?_
 refine GW_seq ?_
 refine GW_seq ?_
 refine GW_region ?_
 refine GL_rd (wn_none rfl) rfl (rd_field rfl rfl fa28_0 _ rfl) ?_
 refine GL_rd (wn_none rfl) rfl (rd_load rfl rfl Tryz.underlying9 rfl ((cell_of_cells (hp.get 1 rfl) _).trans rfl)) ?_
 refine GL_rd (wn_none rfl) rfl (rd_field rfl rfl fa28_0 _ rfl) ?_
 refine GL_rd (wn_none rfl) rfl (rd_load rfl rfl Tryz.underlying9 rfl ((cell_of_cells (hp.get 0 rfl) _).trans rfl)) ?_
 refine GL_rd (wn_none rfl) rfl (rd_bin rfl rfl rfl bo_sneq) ?_
 refine GL_rd (v := .bool _) (wn_none rfl) rfl (rd_move rfl rfl) ?_
 refine GL_split (t := 12) (b := _) rfl ?_ ?_
 ·intro hb; (try simp only [decide_eq_true_eq, decide_eq_false_iff_not, Bool.not_eq_true', Bool.not_eq_false', Bool.not_eq_eq_eq_not, Bool.not_true, Bool.not_false, Int.not_lt, Int.not_le] at hb)
  have hno : ¬ sameQ a b := fun q => hb q.1
  refine GL_pass (nw_off rfl rfl rfl rfl rfl) rfl ?_
  refine GL_pass (nw_off rfl rfl rfl rfl rfl) rfl ?_
  refine GL_pass (nw_off rfl rfl rfl rfl rfl) rfl ?_
  refine GL_pass (nw_off rfl rfl rfl rfl rfl) rfl ?_
  refine GL_pass (nw_off rfl rfl rfl rfl rfl) rfl ?_
  refine GL_rd (v := .bool _) (wn_none rfl) rfl (rd_pickT rfl rfl rfl) ?_
  refine GL_rd (v := .bool _) (wn_none rfl) rfl (rd_move rfl rfl) ?_
  refine GL_pass (nw_off rfl rfl rfl rfl rfl) rfl ?_
  refine GL_pass (nw_off rfl rfl rfl rfl rfl) rfl ?_
  refine GL_pass (nw_off rfl rfl rfl rfl rfl) rfl ?_
  refine GL_pass (nw_off rfl rfl rfl rfl rfl) rfl ?_
  refine GL_pass (nw_off rfl rfl rfl rfl rfl) rfl ?_
  refine GL_rd (v := .bool _) (wn_none rfl) rfl (rd_pickT rfl rfl rfl) ?_
  refine GL_rd (v := .bool _) (wn_none rfl) rfl (rd_move rfl rfl) ?_
  refine GL_pass (nw_off rfl rfl rfl rfl rfl) rfl ?_
  refine GL_pass (nw_off rfl rfl rfl rfl rfl) rfl ?_
  refine GL_pass (nw_off rfl rfl rfl rfl rfl) rfl ?_
  refine GL_pass (nw_off rfl rfl rfl rfl rfl) rfl ?_
  refine GL_pass (nw_off rfl rfl rfl rfl rfl) rfl ?_
  refine GL_pass (nw_off rfl rfl rfl rfl rfl) rfl ?_
  refine GL_pass (nw_off rfl rfl rfl rfl rfl) rfl ?_
  refine GL_rd (v := .bool _) (wn_none rfl) rfl (rd_pickT rfl rfl rfl) ?_
  refine GL_rd (v := .bool _) (wn_none rfl) rfl (rd_move rfl rfl) ?_
  refine GL_pass (nw_off rfl rfl rfl rfl rfl) rfl ?_
  refine GL_pass (nw_off rfl rfl rfl rfl rfl) rfl ?_
  refine GL_pass (nw_off rfl rfl rfl rfl rfl) rfl ?_
  refine GL_pass (nw_off rfl rfl rfl rfl rfl) rfl ?_
  refine GL_pass (nw_off rfl rfl rfl rfl rfl) rfl ?_
  refine GL_pass (nw_off rfl rfl rfl rfl rfl) rfl ?_
  refine GL_pass (nw_off rfl rfl rfl rfl rfl) rfl ?_
  refine GL_rd (v := .bool _) (wn_none rfl) rfl (rd_pickT rfl rfl rfl) ?_
  refine GL_nil ?_
  refine GW_true rfl ?_
  refine GW_seq ?_
  refine GW_region ?_
  refine GL_rd (v := .bool _) (wn_none rfl) rfl (rd_assign rfl rfl) ?_
  refine GL_nil ?_
  refine GW_ret ?_
  exact ⟨_, res1 Tryz.results20 (rv_tmp (v := .bool _) rfl rfl), by rw [decide_eq_false hno], hp.mods⟩
 ·intro hb; (try simp only [decide_eq_true_eq, decide_eq_false_iff_not, Bool.not_eq_true', Bool.not_eq_false', Bool.not_eq_eq_eq_not, Bool.not_true, Bool.not_false, Int.not_lt, Int.not_le] at hb)
  have hc1 := hb
  refine GL_rd (wn_on rfl rfl rfl rfl) rfl (rd_field rfl rfl fa28_1 _ rfl) ?_
  refine GL_rd (wn_on rfl rfl rfl rfl) rfl (rd_load rfl rfl Tryz.underlying3 rfl ((cell_of_cells (hp.get 1 rfl) _).trans rfl)) ?_
  refine GL_rd (wn_on rfl rfl rfl rfl) rfl (rd_field rfl rfl fa28_1 _ rfl) ?_
  refine GL_rd (wn_on rfl rfl rfl rfl) rfl (rd_load rfl rfl Tryz.underlying3 rfl ((cell_of_cells (hp.get 0 rfl) _).trans rfl)) ?_
  refine GL_rd (wn_on rfl rfl rfl rfl) rfl (rd_bin rfl rfl rfl bo_neq) ?_
  refine GL_rd (v := .bool _) (wn_none rfl) rfl (rd_pickF rfl rfl rfl) ?_
  refine GL_rd (v := .bool _) (wn_none rfl) rfl (rd_move rfl rfl) ?_
  refine GL_split (t := 19) (b := _) rfl ?_ ?_
  ·intro hb2; (try simp only [decide_eq_true_eq, decide_eq_false_iff_not, Bool.not_eq_true', Bool.not_eq_false', Bool.not_eq_eq_eq_not, Bool.not_true, Bool.not_false, Int.not_lt, Int.not_le] at hb2)
   have hno : ¬ sameQ a b := fun q => hb2 q.2.1
   refine GL_pass (nw_off rfl rfl rfl rfl rfl) rfl ?_
   refine GL_pass (nw_off rfl rfl rfl rfl rfl) rfl ?_
   refine GL_pass (nw_off rfl rfl rfl rfl rfl) rfl ?_
   refine GL_pass (nw_off rfl rfl rfl rfl rfl) rfl ?_
   refine GL_pass (nw_off rfl rfl rfl rfl rfl) rfl ?_
   refine GL_rd (v := .bool _) (wn_none rfl) rfl (rd_pickT rfl rfl rfl) ?_
   refine GL_rd (v := .bool _) (wn_none rfl) rfl (rd_move rfl rfl) ?_
   refine GL_pass (nw_off rfl rfl rfl rfl rfl) rfl ?_
   refine GL_pass (nw_off rfl rfl rfl rfl rfl) rfl ?_
   refine GL_pass (nw_off rfl rfl rfl rfl rfl) rfl ?_
   refine GL_pass (nw_off rfl rfl rfl rfl rfl) rfl ?_
   refine GL_pass (nw_off rfl rfl rfl rfl rfl) rfl ?_
   refine GL_pass (nw_off rfl rfl rfl rfl rfl) rfl ?_
   refine GL_pass (nw_off rfl rfl rfl rfl rfl) rfl ?_
   refine GL_rd (v := .bool _) (wn_none rfl) rfl (rd_pickT rfl rfl rfl) ?_
   refine GL_rd (v := .bool _) (wn_none rfl) rfl (rd_move rfl rfl) ?_
   refine GL_pass (nw_off rfl rfl rfl rfl rfl) rfl ?_
   refine GL_pass (nw_off rfl rfl rfl rfl rfl) rfl ?_
   refine GL_pass (nw_off rfl rfl rfl rfl rfl) rfl ?_
   refine GL_pass (nw_off rfl rfl rfl rfl rfl) rfl ?_
   refine GL_pass (nw_off rfl rfl rfl rfl rfl) rfl ?_
   refine GL_pass (nw_off rfl rfl rfl rfl rfl) rfl ?_
   refine GL_pass (nw_off rfl rfl rfl rfl rfl) rfl ?_
   refine GL_rd (v := .bool _) (wn_none rfl) rfl (rd_pickT rfl rfl rfl) ?_
   refine GL_nil ?_
   refine GW_true rfl ?_
   refine GW_seq ?_
   refine GW_region ?_
   refine GL_rd (v := .bool _) (wn_none rfl) rfl (rd_assign rfl rfl) ?_
   refine GL_nil ?_
   refine GW_ret ?_
   exact ⟨_, res1 Tryz.results20 (rv_tmp (v := .bool _) rfl rfl), by rw [decide_eq_false hno], hp.mods⟩
  ·intro hb2; (try simp only [decide_eq_true_eq, decide_eq_false_iff_not, Bool.not_eq_true', Bool.not_eq_false', Bool.not_eq_eq_eq_not, Bool.not_true, Bool.not_false, Int.not_lt, Int.not_le] at hb2)
   have hc2 := hb2
   refine GL_rd (wn_on rfl rfl rfl rfl) rfl (rd_field rfl rfl fa28_2 _ rfl) ?_
   refine GL_rd (wn_on rfl rfl rfl rfl) rfl (rd_load rfl rfl Tryz.underlying9 rfl ((cell_of_cells (hp.get 1 rfl) _).trans rfl)) ?_
   refine GL_rd (wn_on rfl rfl rfl rfl) rfl (rd_field rfl rfl fa28_2 _ rfl) ?_
   refine GL_rd (wn_on rfl rfl rfl rfl) rfl (rd_load rfl rfl Tryz.underlying9 rfl ((cell_of_cells (hp.get 0 rfl) _).trans rfl)) ?_
   refine GL_rd (wn_on rfl rfl rfl rfl) rfl (rd_bin rfl rfl rfl bo_sneq) ?_
   refine GL_rd (v := .bool _) (wn_none rfl) rfl (rd_pickF rfl rfl rfl) ?_
   refine GL_rd (v := .bool _) (wn_none rfl) rfl (rd_move rfl rfl) ?_
   refine GL_split (t := 26) (b := _) rfl ?_ ?_
   ·intro hb3; (try simp only [decide_eq_true_eq, decide_eq_false_iff_not, Bool.not_eq_true', Bool.not_eq_false', Bool.not_eq_eq_eq_not, Bool.not_true, Bool.not_false, Int.not_lt, Int.not_le] at hb3)
    have hno : ¬ sameQ a b := fun q => hb3 q.2.2.1
    refine GL_pass (nw_off rfl rfl rfl rfl rfl) rfl ?_
    refine GL_pass (nw_off rfl rfl rfl rfl rfl) rfl ?_
    refine GL_pass (nw_off rfl rfl rfl rfl rfl) rfl ?_
    refine GL_pass (nw_off rfl rfl rfl rfl rfl) rfl ?_
    refine GL_pass (nw_off rfl rfl rfl rfl rfl) rfl ?_
    refine GL_pass (nw_off rfl rfl rfl rfl rfl) rfl ?_
    refine GL_pass (nw_off rfl rfl rfl rfl rfl) rfl ?_
    refine GL_rd (v := .bool _) (wn_none rfl) rfl (rd_pickT rfl rfl rfl) ?_
    refine GL_rd (v := .bool _) (wn_none rfl) rfl (rd_move rfl rfl) ?_
    refine GL_pass (nw_off rfl rfl rfl rfl rfl) rfl ?_
    refine GL_pass (nw_off rfl rfl rfl rfl rfl) rfl ?_
    refine GL_pass (nw_off rfl rfl rfl rfl rfl) rfl ?_
    refine GL_pass (nw_off rfl rfl rfl rfl rfl) rfl ?_
    refine GL_pass (nw_off rfl rfl rfl rfl rfl) rfl ?_
    refine GL_pass (nw_off rfl rfl rfl rfl rfl) rfl ?_
    refine GL_pass (nw_off rfl rfl rfl rfl rfl) rfl ?_
    refine GL_rd (v := .bool _) (wn_none rfl) rfl (rd_pickT rfl rfl rfl) ?_
    refine GL_nil ?_
    refine GW_true rfl ?_
    refine GW_seq ?_
    refine GW_region ?_
    refine GL_rd (v := .bool _) (wn_none rfl) rfl (rd_assign rfl rfl) ?_
    refine GL_nil ?_
    refine GW_ret ?_
    exact ⟨_, res1 Tryz.results20 (rv_tmp (v := .bool _) rfl rfl), by rw [decide_eq_false hno], hp.mods⟩
   ·intro hb3; (try simp only [decide_eq_true_eq, decide_eq_false_iff_not, Bool.not_eq_true', Bool.not_eq_false', Bool.not_eq_eq_eq_not, Bool.not_true, Bool.not_false, Int.not_lt, Int.not_le] at hb3)
    have hc3 := hb3
    refine GL_rd (wn_on rfl rfl rfl rfl) rfl (rd_field rfl rfl fa28_3 _ rfl) ?_
    refine GL_rd (v := .slice _ _ _) (wn_on rfl rfl rfl rfl) rfl (rd_load rfl rfl Tryz.underlying22 rfl ((cell_of_cells (hp.get 1 rfl) _).trans rfl)) ?_
    refine GL_rd (wn_on rfl rfl rfl rfl) rfl (rd_len rfl rfl Tryz.underlying22) ?_
    refine GL_rd (wn_on rfl rfl rfl rfl) rfl (rd_field rfl rfl fa28_3 _ rfl) ?_
    refine GL_rd (v := .slice _ _ _) (wn_on rfl rfl rfl rfl) rfl (rd_load rfl rfl Tryz.underlying22 rfl ((cell_of_cells (hp.get 0 rfl) _).trans rfl)) ?_
    refine GL_rd (wn_on rfl rfl rfl rfl) rfl (rd_len rfl rfl Tryz.underlying22) ?_
    refine GL_rd (wn_on rfl rfl rfl rfl) rfl (rd_bin rfl rfl rfl bo_neq) ?_
    refine GL_rd (v := .bool _) (wn_none rfl) rfl (rd_pickF rfl rfl rfl) ?_
    refine GL_rd (v := .bool _) (wn_none rfl) rfl (rd_move rfl rfl) ?_
    refine GL_split (t := 35) (b := _) rfl ?_ ?_
    ·intro hb4; (try simp only [decide_eq_true_eq, decide_eq_false_iff_not, Bool.not_eq_true', Bool.not_eq_false', Bool.not_eq_eq_eq_not, Bool.not_true, Bool.not_false, Int.not_lt, Int.not_le] at hb4)
     have hno : ¬ sameQ a b := fun q => hb4 (by have := congrArg List.length q.2.2.2.1; simp only [List.length_map] at this; omega)
     refine GL_pass (nw_off rfl rfl rfl rfl rfl) rfl ?_
     refine GL_pass (nw_off rfl rfl rfl rfl rfl) rfl ?_
     refine GL_pass (nw_off rfl rfl rfl rfl rfl) rfl ?_
     refine GL_pass (nw_off rfl rfl rfl rfl rfl) rfl ?_
     refine GL_pass (nw_off rfl rfl rfl rfl rfl) rfl ?_
     refine GL_pass (nw_off rfl rfl rfl rfl rfl) rfl ?_
     refine GL_pass (nw_off rfl rfl rfl rfl rfl) rfl ?_
     refine GL_rd (v := .bool _) (wn_none rfl) rfl (rd_pickT rfl rfl rfl) ?_
     refine GL_nil ?_
     refine GW_true rfl ?_
     refine GW_seq ?_
     refine GW_region ?_
     refine GL_rd (v := .bool _) (wn_none rfl) rfl (rd_assign rfl rfl) ?_
     refine GL_nil ?_
     refine GW_ret ?_
     exact ⟨_, res1 Tryz.results20 (rv_tmp (v := .bool _) rfl rfl), by rw [decide_eq_false hno], hp.mods⟩
    ·intro hb4; (try simp only [decide_eq_true_eq, decide_eq_false_iff_not, Bool.not_eq_true', Bool.not_eq_false', Bool.not_eq_eq_eq_not, Bool.not_true, Bool.not_false, Int.not_lt, Int.not_le] at hb4)
     have hc4 : a.tx.length = b.tx.length := by have := hb4; omega
     refine GL_rd (wn_on rfl rfl rfl rfl) rfl (rd_field rfl rfl fa28_4 _ rfl) ?_
     refine GL_rd (v := .slice _ _ _) (wn_on rfl rfl rfl rfl) rfl (rd_load rfl rfl Tryz.underlying23 rfl ((cell_of_cells (hp.get 1 rfl) _).trans rfl)) ?_
     refine GL_rd (wn_on rfl rfl rfl rfl) rfl (rd_len rfl rfl Tryz.underlying23) ?_
     refine GL_rd (wn_on rfl rfl rfl rfl) rfl (rd_field rfl rfl fa28_4 _ rfl) ?_
     refine GL_rd (v := .slice _ _ _) (wn_on rfl rfl rfl rfl) rfl (rd_load rfl rfl Tryz.underlying23 rfl ((cell_of_cells (hp.get 0 rfl) _).trans rfl)) ?_
     refine GL_rd (wn_on rfl rfl rfl rfl) rfl (rd_len rfl rfl Tryz.underlying23) ?_
     refine GL_rd (wn_on rfl rfl rfl rfl) rfl (rd_bin rfl rfl rfl bo_neq) ?_
     refine GL_rd (v := .bool _) (wn_none rfl) rfl (rd_pickF rfl rfl rfl) ?_
     refine GL_nil ?_
     refine GW_cond rfl (fun hb5 => ?_) (fun hb5 => ?_)
     ·(try simp only [decide_eq_true_eq, decide_eq_false_iff_not, Bool.not_eq_true', Bool.not_eq_false', Bool.not_eq_eq_eq_not, Bool.not_true, Bool.not_false, Int.not_lt, Int.not_le] at hb5)
      have hno : ¬ sameQ a b := fun q => hb5 (by rw [q.2.2.2.2])
      refine GW_seq ?_
      refine GW_region ?_
      refine GL_rd (v := .bool _) (wn_none rfl) rfl (rd_assign rfl rfl) ?_
      refine GL_nil ?_
      refine GW_ret ?_
      exact ⟨_, res1 Tryz.results20 (rv_tmp (v := .bool _) rfl rfl), by rw [decide_eq_false hno], hp.mods⟩
     ·(try simp only [decide_eq_true_eq, decide_eq_false_iff_not, Bool.not_eq_true', Bool.not_eq_false', Bool.not_eq_eq_eq_not, Bool.not_true, Bool.not_false, Int.not_lt, Int.not_le] at hb5)
      have hc5 : a.au.length = b.au.length := by have := hb5; omega
      refine GW_skip ?_
      refine GW_seq ?_
      refine GW_seq ?_
      refine GW_region ?_
      refine GL_rd (wn_none rfl) rfl (rd_field rfl rfl fa28_3 _ rfl) ?_
      refine GL_rd (v := .slice _ _ _) (wn_none rfl) rfl (rd_load rfl rfl Tryz.underlying22 rfl ((cell_of_cells (hp.get 1 rfl) _).trans rfl)) ?_
      refine GL_rd (wn_none rfl) rfl (rd_len rfl rfl Tryz.underlying22) ?_
      refine GL_rd (v := .int _ _) (wn_none rfl) rfl (rd_move rfl rfl) ?_
      refine GL_nil ?_
      refine GW_block ?_
      refine GW_loop ?_
      refine Lp_ind (α := Nat × Option Addr × Option Addr) (fun a_0 f_0 w' => match a_0 with | (i, At, Bt) => ∃ fz, f_0 = (upd (upd (upd (upd fz 46 (.int .i64 (a.tx.length : Int))) 47 (.int .i64 (i : Int))) 2 (.pointer (some ⟨g, 0, none⟩))) 3 (.pointer (some ⟨g2, 0, none⟩))) ∧ Hp w0 [] w' [cells g2 28 (buC b (.slice Bt b.tx.length dt) (.slice Ba b.au.length da)), cells g 28 (buC a (.slice At a.tx.length ct) (.slice Aa a.au.length ca))] ∧ (i ≤ a.tx.length) ∧ (Sl w0 (.slice At a.tx.length ct) 1 a.tx.length (a.tx.map Prod.fst)) ∧ (Sl w0 (.slice Bt b.tx.length dt) 1 b.tx.length (b.tx.map Prod.fst)) ∧ (∀ j, j < i → (a.tx.getD j default).2 = (b.tx.getD j default).2)) (fun a_0 => match a_0 with | (i, At, Bt) => a.tx.length - i) ?_ (0, At, Bt) _ _ ?_
      ·rintro ⟨i, At, Bt⟩ f wz ⟨fz, rfl, hp, hi0, h2a, h2b, hz⟩ ihL0
       refine Lp_round ?_
       refine GW_seq ?_
       refine GW_region ?_
       refine GL_rd (wn_none rfl) rfl (rd_bin rfl rfl rfl bo_lss) ?_
       refine GL_nil ?_
       refine GW_seq ?_
       refine GW_cond rfl (fun hb6 => ?_) (fun hb6 => ?_)
       ·(try simp only [decide_eq_true_eq, decide_eq_false_iff_not, Bool.not_eq_true', Bool.not_eq_false', Bool.not_eq_eq_eq_not, Bool.not_true, Bool.not_false, Int.not_lt, Int.not_le] at hb6)
        obtain ⟨gp, bp, rfl⟩ := h2a.addr (by rw [List.length_map]; omega)
        have hmp := getD_inL (l := a.tx) (i := i) (by omega)
        obtain ⟨Axp, cxp, hsp⟩ := sl_shape (hA.txs _ hmp)
        obtain ⟨gq, bq, rfl⟩ := h2b.addr (by rw [List.length_map]; omega)
        have hmq := getD_inL (l := b.tx) (i := i) (by omega)
        obtain ⟨Axq, cxq, hsq⟩ := sl_shape (hB.txs _ hmq)
        refine GW_skip ?_
        refine GW_seq ?_
        refine GW_block ?_
        refine GW_seq ?_
        refine GW_region ?_
        refine GL_rd (v := .int _ _) (wn_none rfl) rfl (rd_move rfl rfl) ?_
        refine GL_rd (v := .int _ _) (wn_none rfl) rfl (rd_assign rfl rfl) ?_
        refine GL_nil ?_
        refine GW_seq ?_
        refine GW_drawnK 13 (.one 0 true (.one 1 true (.one 2 true (.one 3 true (.one 4 true (.one 5 true (.one 6 true (.one 7 true (.one 8 true (.one 9 true (.one 10 true (.one 11 true (.one 12 true .nil))))))))))))) mixed (by kernel_rfl) hp (fun _ h => h) fun w hp => ?_
        have hpS := hp
        refine GO_rdT rfl (wn_none rfl) rfl (fun w => (rd_field rfl rfl fa28_3 _ rfl)) ?_
        refine GO_rd (v := .slice _ _ _) rfl rfl (wn_none rfl) rfl hpS (fun w hp => (rd_load rfl rfl Tryz.underlying22 rfl ((cell_of_cells (hp.get 1 rfl) _).trans rfl))) ?_
        refine GO_rdT (v := .int _ _) rfl (wn_none rfl) rfl (fun w => (rd_move rfl rfl)) ?_
        refine GO_rdT rfl (wn_none rfl) rfl (fun w => (rd_indexS (j := i) rfl rfl rfl Tryz.underlying22 ts35 rfl (by omega) _ rfl)) ?_
        refine GO_rd (v := .slice _ _ _) rfl rfl (wn_none rfl) rfl hpS (fun w hp => (rd_load rfl rfl Tryz.underlying35 rfl ((h2a.keep hp.mod).get _ _ (by rw [Nat.mul_one]; exact (fstL_at (L := a.tx) (i := i) (by omega)).trans (congrArg some hsp))))) ?_
        refine GO_rd rfl rfl (wn_none rfl) rfl hpS (fun w hp => (rd_toStr rfl rfl Tryz.underlying35 Tryz.underlying9 Tryz.underlying5 (by have h := (hA.txs _ hmp).keep hp.mod; rw [hsp] at h; exact h))) ?_
        refine GO_rdT rfl (wn_none rfl) rfl (fun w => (rd_field rfl rfl fa28_3 _ rfl)) ?_
        refine GO_rd (v := .slice _ _ _) rfl rfl (wn_none rfl) rfl hpS (fun w hp => (rd_load rfl rfl Tryz.underlying22 rfl ((cell_of_cells (hp.get 0 rfl) _).trans rfl))) ?_
        refine GO_rdT (v := .int _ _) rfl (wn_none rfl) rfl (fun w => (rd_move rfl rfl)) ?_
        refine GO_rdT rfl (wn_none rfl) rfl (fun w => (rd_indexS (j := i) rfl rfl rfl Tryz.underlying22 ts35 rfl (by omega) _ rfl)) ?_
        refine GO_rd (v := .slice _ _ _) rfl rfl (wn_none rfl) rfl hpS (fun w hp => (rd_load rfl rfl Tryz.underlying35 rfl ((h2b.keep hp.mod).get _ _ (by rw [Nat.mul_one]; exact (fstL_at (L := b.tx) (i := i) (by omega)).trans (congrArg some hsq))))) ?_
        refine GO_rd rfl rfl (wn_none rfl) rfl hpS (fun w hp => (rd_toStr rfl rfl Tryz.underlying35 Tryz.underlying9 Tryz.underlying5 (by have h := (hB.txs _ hmq).keep hp.mod; rw [hsq] at h; exact h))) ?_
        refine GO_rd rfl rfl (wn_none rfl) rfl hpS (fun w hp => (rd_bin rfl rfl rfl bo_sneq)) ?_
        refine GO_nil ?_
        refine GW_cond rfl (fun hb7 => ?_) (fun hb7 => ?_)
        ·(try simp only [decide_eq_true_eq, decide_eq_false_iff_not, Bool.not_eq_true', Bool.not_eq_false', Bool.not_eq_eq_eq_not, Bool.not_true, Bool.not_false, Int.not_lt, Int.not_le] at hb7)
         have hno : ¬ sameQ a b := fun q => hb7 (byte_arr.2 (snd_at q.2.2.2.1 (by omega)))
         refine GW_seq ?_
         refine GW_region ?_
         refine GL_rd (v := .bool _) (wn_none rfl) rfl (rd_assign rfl rfl) ?_
         refine GL_nil ?_
         refine GW_ret ?_
         exact ⟨_, res1 Tryz.results20 (rv_tmp (v := .bool _) rfl rfl), by rw [decide_eq_false hno], hp.mods⟩
        ·(try simp only [decide_eq_true_eq, decide_eq_false_iff_not, Bool.not_eq_true', Bool.not_eq_false', Bool.not_eq_eq_eq_not, Bool.not_true, Bool.not_false, Int.not_lt, Int.not_le] at hb7)
         have hxe := byte_arr.1 hb7
         refine GW_skip ?_
         refine GW_region ?_
         refine GL_rd (wn_none rfl) rfl (rd_bin rfl rfl rfl (bo_add64 (by omega))) ?_
         refine GL_rd (v := .int _ _) (wn_none rfl) rfl (rd_move rfl rfl) ?_
         refine GL_nil ?_
         have hp := (((hp.front 1 rfl).front 1 rfl).take 2)
         exact ihL0 (i + 1, _, _) _ _ (by simp only []; omega) ⟨_, slots4 rfl rfl rfl rfl, hp, by omega, h2a, h2b, fun j hj => by rcases Nat.lt_succ_iff_lt_or_eq.1 hj with h | h; exact hz j h; rw [h]; exact hxe⟩
       ·(try simp only [decide_eq_true_eq, decide_eq_false_iff_not, Bool.not_eq_true', Bool.not_eq_false', Bool.not_eq_eq_eq_not, Bool.not_true, Bool.not_false, Int.not_lt, Int.not_le] at hb6)
        have hc6 := snd_ext hc4 fun j hj => hz j (by omega)
        refine GW_exit ?_
        refine GW_seq ?_
        refine GW_seq ?_
        refine GW_region ?_
        refine GL_rd (wn_none rfl) rfl (rd_field rfl rfl fa28_4 _ rfl) ?_
        refine GL_rd (v := .slice _ _ _) (wn_none rfl) rfl (rd_load rfl rfl Tryz.underlying23 rfl ((cell_of_cells (hp.get 1 rfl) _).trans rfl)) ?_
        refine GL_rd (wn_none rfl) rfl (rd_len rfl rfl Tryz.underlying23) ?_
        refine GL_rd (v := .int _ _) (wn_none rfl) rfl (rd_move rfl rfl) ?_
        refine GL_nil ?_
        refine GW_block ?_
        refine GW_loop ?_
        refine Lp_ind (α := Nat × Option Addr × Option Addr) (fun a_0 f_0 w' => match a_0 with | (i, Aa, Ba) => ∃ fz, f_0 = (upd (upd (upd (upd fz 66 (.int .i64 (a.au.length : Int))) 67 (.int .i64 (i : Int))) 2 (.pointer (some ⟨g, 0, none⟩))) 3 (.pointer (some ⟨g2, 0, none⟩))) ∧ Hp w0 [] w' [cells g2 28 (buC b (.slice Bt b.tx.length dt) (.slice Ba b.au.length da)), cells g 28 (buC a (.slice At a.tx.length ct) (.slice Aa a.au.length ca))] ∧ (i ≤ a.au.length) ∧ (Sl w0 (.slice Aa a.au.length ca) 100 a.au.length (a.au.flatMap recC)) ∧ (Sl w0 (.slice Ba b.au.length da) 100 b.au.length (b.au.flatMap recC)) ∧ (∀ j, j < i → recAt a.au j = recAt b.au j)) (fun a_0 => match a_0 with | (i, Aa, Ba) => a.au.length - i) ?_ (0, Aa, Ba) _ _ ?_
        ·rintro ⟨i, Aa, Ba⟩ f wz ⟨fz, rfl, hp, hi0, h4a, h4b, hz⟩ ihL1
         refine Lp_round ?_
         refine GW_seq ?_
         refine GW_region ?_
         refine GL_rd (wn_none rfl) rfl (rd_bin rfl rfl rfl bo_lss) ?_
         refine GL_nil ?_
         refine GW_seq ?_
         refine GW_cond rfl (fun hb8 => ?_) (fun hb8 => ?_)
         ·(try simp only [decide_eq_true_eq, decide_eq_false_iff_not, Bool.not_eq_true', Bool.not_eq_false', Bool.not_eq_eq_eq_not, Bool.not_true, Bool.not_false, Int.not_lt, Int.not_le] at hb8)
          obtain ⟨gu, bu, rfl⟩ := h4a.addr (by rw [flat_length recC_len]; omega)
          obtain ⟨gv, bv, rfl⟩ := h4b.addr (by rw [flat_length recC_len]; omega)
          refine GW_skip ?_
          refine GW_seq ?_
          refine GW_block ?_
          refine GW_seq ?_
          refine GW_region ?_
          refine GL_rd (v := .int _ _) (wn_none rfl) rfl (rd_move rfl rfl) ?_
          refine GL_rd (v := .int _ _) (wn_none rfl) rfl (rd_assign rfl rfl) ?_
          refine GL_nil ?_
          refine GW_seq ?_
          refine GW_drawnK 11 (.one 0 true (.one 1 true (.one 2 true (.one 3 true (.one 4 true (.one 5 true (.one 6 true (.one 7 true (.one 8 true (.one 9 true (.one 10 true .nil))))))))))) mixed (by kernel_rfl) hp (fun _ h => h) fun w hp => ?_
          have hpS2 := hp
          refine GO_rdT rfl (wn_none rfl) rfl (fun w => (rd_field rfl rfl fa28_4 _ rfl)) ?_
          refine GO_rd (v := .slice _ _ _) rfl rfl (wn_none rfl) rfl hpS2 (fun w hp => (rd_load rfl rfl Tryz.underlying23 rfl ((cell_of_cells (hp.get 1 rfl) _).trans rfl))) ?_
          refine GO_rdT (v := .int _ _) rfl (wn_none rfl) rfl (fun w => (rd_move rfl rfl)) ?_
          refine GO_rdT rfl (wn_none rfl) rfl (fun w => (rd_indexS (j := i) rfl rfl rfl Tryz.underlying23 ts46 rfl (by omega) _ rfl)) ?_
          refine GO_rd rfl rfl (wn_none rfl) rfl hpS2 (fun w hp => (rd_loadN (L := recC _) rfl rfl Tryz.underlying46 rfl ts46 (recC_len _) (fun jq u hj => Sl.recE (h4a.keep hp.mod) i (by first | omega | assumption | exact Nat.lt_succ_self _) hj))) ?_
          refine GO_rdT rfl (wn_none rfl) rfl (fun w => (rd_field rfl rfl fa28_4 _ rfl)) ?_
          refine GO_rd (v := .slice _ _ _) rfl rfl (wn_none rfl) rfl hpS2 (fun w hp => (rd_load rfl rfl Tryz.underlying23 rfl ((cell_of_cells (hp.get 0 rfl) _).trans rfl))) ?_
          refine GO_rdT (v := .int _ _) rfl (wn_none rfl) rfl (fun w => (rd_move rfl rfl)) ?_
          refine GO_rdT rfl (wn_none rfl) rfl (fun w => (rd_indexS (j := i) rfl rfl rfl Tryz.underlying23 ts46 rfl (by omega) _ rfl)) ?_
          refine GO_rd rfl rfl (wn_none rfl) rfl hpS2 (fun w hp => (rd_loadN (L := recC _) rfl rfl Tryz.underlying46 rfl ts46 (recC_len _) (fun jq u hj => Sl.recE (h4b.keep hp.mod) i (by first | omega | assumption | exact Nat.lt_succ_self _) hj))) ?_
          refine GO_rd rfl rfl (wn_none rfl) rfl hpS2 (fun w hp => (rd_bin rfl rfl rfl (bo_rec recAt59).2)) ?_
          refine GO_nil ?_
          refine GW_cond rfl (fun hb9 => ?_) (fun hb9 => ?_)
          ·(try simp only [decide_eq_true_eq, decide_eq_false_iff_not, Bool.not_eq_true', Bool.not_eq_false', Bool.not_eq_eq_eq_not, Bool.not_true, Bool.not_false, Int.not_lt, Int.not_le] at hb9)
           have hno : ¬ sameQ a b := fun q => hb9 (by rw [q.2.2.2.2])
           refine GW_seq ?_
           refine GW_region ?_
           refine GL_rd (v := .bool _) (wn_none rfl) rfl (rd_assign rfl rfl) ?_
           refine GL_nil ?_
           refine GW_ret ?_
           exact ⟨_, res1 Tryz.results20 (rv_tmp (v := .bool _) rfl rfl), by rw [decide_eq_false hno], hp.mods⟩
          ·(try simp only [decide_eq_true_eq, decide_eq_false_iff_not, Bool.not_eq_true', Bool.not_eq_false', Bool.not_eq_eq_eq_not, Bool.not_true, Bool.not_false, Int.not_lt, Int.not_le] at hb9)
           have hxe := hb9
           refine GW_skip ?_
           refine GW_region ?_
           refine GL_rd (wn_none rfl) rfl (rd_bin rfl rfl rfl (bo_add64 (by omega))) ?_
           refine GL_rd (v := .int _ _) (wn_none rfl) rfl (rd_move rfl rfl) ?_
           refine GL_nil ?_
           have hp := (((hp.front 1 rfl).front 1 rfl).take 2)
           exact ihL1 (i + 1, _, _) _ _ (by simp only []; omega) ⟨_, slots4 rfl rfl rfl rfl, hp, by omega, h4a, h4b, fun j hj => by rcases Nat.lt_succ_iff_lt_or_eq.1 hj with h | h; exact hz j h; rw [h]; exact hxe⟩
         ·(try simp only [decide_eq_true_eq, decide_eq_false_iff_not, Bool.not_eq_true', Bool.not_eq_false', Bool.not_eq_eq_eq_not, Bool.not_true, Bool.not_false, Int.not_lt, Int.not_le] at hb8)
          refine GW_exit ?_
          refine GW_seq ?_
          refine GW_region ?_
          refine GL_rd (v := .bool _) (wn_none rfl) rfl (rd_assign rfl rfl) ?_
          refine GL_nil ?_
          refine GW_ret ?_
          have hyes : sameQ a b := ⟨hc1, hc2, hc3, hc6, rec_exti hc5 fun j hj => hz j (by omega)⟩
          exact ⟨_, res1 Tryz.results20 (rv_tmp (v := .bool _) rfl rfl), by rw [decide_eq_true hyes], hp.mods⟩
        ·refine ⟨_, slots4 rfl rfl rfl rfl, hp, Nat.zero_le _, h4a, h4b, fun j hj => absurd hj (by omega)⟩
      ·refine ⟨_, slots4 rfl rfl rfl rfl, hp, Nat.zero_le _, h2a, h2b, fun j hj => absurd hj (by omega)⟩
end Go.Proofs.YtpagpmioopaciaaGreat
