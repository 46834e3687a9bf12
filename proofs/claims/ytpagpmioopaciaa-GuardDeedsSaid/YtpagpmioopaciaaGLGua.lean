/- Walks of functions of the program. -/
import Derived.Test.YtpagpmioopaciaaGFGuE
set_option linter.unusedVariables false
set_option linter.unusedSimpArgs false
namespace Go.Proofs.Ytpagpmioopaciaa
open Go.Mo Go.RowKit
set_option maxHeartbeats 8000000 in
theorem law_GuardDoes (sv : Value) (l : List OpR) (who : ByteArray) (op : Int) (w0 : World) (hl : Sl w0 sv 4 l.length (l.flatMap goC)) (hlo : okG w0 l) : Does Try.prog 5 #[sv, .string who, .int .i64 op] w0 fun v w' => v = .bool true ∧ Hp w0 [] w' [] := by
 obtain ⟨A, c, rfl⟩ := sl_shape hl
 have hlle := hl.le
 refine does_of (l := [.slice A l.length c, .string who, .int .i64 op]) Try.func5 (by kernel_rfl) rfl Try.ntmps5 rfl rfl (by kernel_rfl) ?_
 have hp := Hp.refl w0 []
 refine GW_seq ?_
 refine GW_region ?_
 refine GL_rd (v := .bool _) (wn_none rfl) rfl (rd_assign rfl rfl) ?_
 refine GL_nil ?_
 refine GW_seq ?_
 refine GW_seq ?_
 refine GW_region ?_
 refine GL_rd (v := .slice _ _ _) (wn_none rfl) rfl (rd_move rfl rfl) ?_
 refine GL_call (wn_none rfl) rfl rfl (law_glight _ l _ (hl.keep hp.mod) (fun x hx => (hlo x hx).keep hp.mod)) rfl ?_
 rintro _ w ⟨bl, rfl, hbl, hk⟩
 have hp := hp.comp hk
 refine GL_rd (wn_none rfl) rfl (rd_not rfl rfl) ?_
 refine GL_rd (v := .bool _) (wn_none rfl) rfl (rd_move rfl rfl) ?_
 refine GL_split (t := 19) (b := _) rfl ?_ ?_
 ·intro hb; (try simp only [decide_eq_true_eq, decide_eq_false_iff_not, Bool.not_eq_true', Bool.not_eq_false', Bool.not_eq_eq_eq_not, Bool.not_true, Bool.not_false, Int.not_lt, Int.not_le] at hb)
  refine GL_pass (nw_off rfl rfl rfl rfl rfl) rfl ?_
  refine GL_pass (nw_off rfl rfl rfl rfl rfl) rfl ?_
  refine GL_pass (nw_off rfl rfl rfl rfl rfl) rfl ?_
  refine GL_rd (v := .bool _) (wn_none rfl) rfl (rd_pickT rfl rfl rfl) ?_
  refine GL_nil ?_
  refine GW_true rfl ?_
  refine GW_seq ?_
  refine GW_region ?_
  refine GL_call (wn_none rfl) rfl rfl (law_gworks _) rfl ?_
  rintro _ w ⟨rfl, hk⟩
  have hp := hp.comp hk
  refine GL_rd (v := .bool _) (wn_none rfl) rfl (rd_assign rfl rfl) ?_
  refine GL_nil ?_
  refine GW_ret ?_
  exact ⟨_, res1 Try.results5 (rv_tmp (v := .bool _) rfl rfl), rfl, hp.mods⟩
 ·intro hb; (try simp only [decide_eq_true_eq, decide_eq_false_iff_not, Bool.not_eq_true', Bool.not_eq_false', Bool.not_eq_eq_eq_not, Bool.not_true, Bool.not_false, Int.not_lt, Int.not_le] at hb)
  have hli := hbl hb
  refine GL_rd (v := .string _) (wn_on rfl rfl rfl rfl) rfl (rd_move rfl rfl) ?_
  refine GL_rd (wn_on rfl rfl rfl rfl) rfl (rd_lenS rfl rfl Try.underlying9) ?_
  refine GL_rd (wn_on rfl rfl rfl rfl) rfl (rd_bin rfl rfl rfl bo_gtr) ?_
  refine GL_rd (v := .bool _) (wn_none rfl) rfl (rd_pickF rfl rfl rfl) ?_
  refine GL_nil ?_
  refine GW_cond rfl (fun hb2 => ?_) (fun hb2 => ?_)
  ·(try simp only [decide_eq_true_eq, decide_eq_false_iff_not, Bool.not_eq_true', Bool.not_eq_false', Bool.not_eq_eq_eq_not, Bool.not_true, Bool.not_false, Int.not_lt, Int.not_le] at hb2)
   refine GW_seq ?_
   refine GW_region ?_
   refine GL_call (wn_none rfl) rfl rfl (law_gworks _) rfl ?_
   rintro _ w ⟨rfl, hk⟩
   have hp := hp.comp hk
   refine GL_rd (v := .bool _) (wn_none rfl) rfl (rd_assign rfl rfl) ?_
   refine GL_nil ?_
   refine GW_ret ?_
   exact ⟨_, res1 Try.results5 (rv_tmp (v := .bool _) rfl rfl), rfl, hp.mods⟩
  ·(try simp only [decide_eq_true_eq, decide_eq_false_iff_not, Bool.not_eq_true', Bool.not_eq_false', Bool.not_eq_eq_eq_not, Bool.not_true, Bool.not_false, Int.not_lt, Int.not_le] at hb2)
   refine GW_skip ?_
   refine GW_seq ?_
   refine GW_region ?_
   refine GL_rd (v := .slice _ _ _) (wn_none rfl) rfl (rd_move rfl rfl) ?_
   refine GL_call (wn_none rfl) rfl rfl (law_made _ l _ (hl.keep hp.mod) (fun x hx => (hlo x hx).keep hp.mod) hli) rfl ?_
   rintro _ w ⟨gq, rm, pm, cr, cp, RA, PA, mk, ct, rv, lv, R, L, rfl, hO, hG, hRo, hR1, hL1, hk⟩
   have hp := hp.comp hk
   obtain ⟨AR, cR, rfl⟩ := row_shape (hp.get 4 rfl)
   obtain ⟨AL, cL, rfl⟩ := row_shape (hp.get 5 rfl)
   have hpl := peo_len L
   refine GL_rd (v := .tuple _) (wn_none rfl) rfl (rd_move rfl rfl) ?_
   refine GL_rd (v := .pointer (some ⟨gq, 0, none⟩)) (wn_none rfl) rfl (rd_extract rfl rfl rfl) ?_
   refine GL_rd (v := .agg ⟨_⟩) (wn_none rfl) rfl (rd_extract rfl rfl rfl) ?_
   refine GL_rd (v := .bool _) (wn_none rfl) rfl (rd_extract rfl rfl rfl) ?_
   refine GL_alloc (wn_none rfl) rfl rfl tz51 rfl hp ?_
   intro g w hp
   refine GL_rd (v := .pointer (some ⟨gq, 0, none⟩)) (wn_none rfl) rfl (rd_assign rfl rfl) ?_
   refine GL_store (i := 0) (wn_none rfl) rfl rfl rfl rfl ts51 rfl rfl (oneC rfl (oneC rfl one0)) hp rfl (by first | exact Nat.le_of_ble_eq_true rfl | simp [bys_length, *]) rfl ?_
   intro w hp
   refine GL_rd (v := .bool _) (wn_none rfl) rfl (rd_assign rfl rfl) ?_
   refine GL_nil ?_
   refine GW_seq ?_
   refine GW_cut (fun f_0 w' => ∃ (fz : _), f_0 = (upd (upd (upd (upd (upd fz 43 (.bool false)) 1 (.string who)) 2 (.int .i64 op)) 7 (.pointer (some ⟨gq, 0, none⟩))) 8 (.pointer (some ⟨g, 0, none⟩))) ∧ Hp w0 [] w' [cells gq 137 [.map (some rm), .map (some pm)], .blk rm (.map ⟨alE RA⟩ cr), .blk pm (.map ⟨alE PA⟩ cp), packL (rowsG 9 PA ct), .row 61 2 (.slice AR R.length cR) (R).length ((R).flatMap roC), .row 128 2 (.slice AL L.length cL) (L).length ((L).flatMap haC), cells g 51 [.slice AR R.length cR, .slice AL L.length cL]]) ?_ ?_
   ·skip
    refine GW_drawnK 13 (.one 0 true (.one 1 true (.one 2 true (.one 3 true (.one 4 true (.one 5 true (.one 7 true (.one 8 true (.one 9 true (.one 6 false (.one 10 false (.one 11 true (.one 12 true .nil))))))))))))) mixed (by kernel_rfl) hp (fun _ h => h) fun w hp => ?_
    have hpS := hp
    refine GO_rdT (v := .bool _) rfl (wn_none rfl) rfl (fun w => (rd_move rfl rfl)) ?_
    refine GO_rd rfl rfl (wn_none rfl) rfl hpS (fun w hp => (rd_not rfl rfl)) ?_
    refine GO_rdT (v := .bool _) rfl (wn_none rfl) rfl (fun w => (rd_move rfl rfl)) ?_
    refine GO_rdT (v := .pointer (some ⟨gq, 0, none⟩)) rfl (wn_on rfl rfl rfl rfl) rfl (fun w => (rd_move rfl rfl)) ?_
    refine GO_rdT (v := .string _) rfl (wn_on rfl rfl rfl rfl) rfl (fun w => (rd_move rfl rfl)) ?_
    refine GO_rdT (v := .int _ _) rfl (wn_on rfl rfl rfl rfl) rfl (fun w => (rd_move rfl rfl)) ?_
    refine GO_rd rfl rfl (wn_on rfl rfl rfl rfl) rfl hpS (fun w hp => (rd_loadC rfl rfl Try.underlying51 rfl ts51 (hp.get 0 rfl) (by first | (rw [bys_length]; first | exact a32_len _) | rfl | simp [bys_length, *]))) ?_
    refine GO_rdT (v := .string _) rfl (wn_on rfl rfl rfl rfl) rfl (fun w => (rd_move rfl rfl)) ?_
    refine GO_rdT (v := .int _ _) rfl (wn_on rfl rfl rfl rfl) rfl (fun w => (rd_move rfl rfl)) ?_
    refine GO_of_GL rfl ?_
    refine GL_call (wn_on rfl rfl rfl rfl) rfl rfl (gu_May gq rm pm cr cp RA PA mk ct who op _ ⟨hp.get 1 rfl, hp.get 2 rfl, hp.get 3 rfl, hp.get 4 rfl⟩ hO) rfl ?_
    rintro _ w ⟨rfl, hk⟩
    have hp := hp.comp hk
    have hpS2 := hp
    refine GL_nil ⟨fun _ => hpS2, ?_⟩
    refine GO_of_GL rfl ?_
    refine GL_call (wn_on rfl rfl rfl rfl) rfl rfl (ref_gMay _ _ R L who op _ (Sl.row (hp.get 5 rfl)) (Sl.row (hp.get 6 rfl)) (hRo _ fun x hx => (hlo x hx).keep hp.mod) hG.inR) rfl ?_
    rintro _ w ⟨rfl, hk⟩
    have hp := hp.comp hk
    have hpS3 := hp
    refine GL_nil ⟨fun _ => hpS3, ?_⟩
    refine GO_rd rfl rfl (wn_on rfl rfl rfl rfl) rfl hpS3 (fun w hp => (rd_bin rfl rfl rfl (bo_bneq Try.underlying4))) ?_
    refine GO_rdT (v := .bool _) rfl (wn_none rfl) rfl (fun w => (rd_pickF rfl rfl rfl)) ?_
    refine GO_nil ?_
    have hp := ((((((((hp.front 0 rfl).front 6 rfl).front 6 rfl).front 6 rfl).front 6 rfl).front 6 rfl).front 6 rfl).take 7)
    exact ⟨_, slots5 (by show Value.bool _ = _; rw [hG.may]; simp) rfl rfl rfl rfl, hp⟩
   ·rintro f w ⟨fz, rfl, hp⟩
    refine GW_false rfl ?_
    refine GW_skip ?_
    refine GW_seq ?_
    refine GW_region ?_
    refine GL_rd (v := .pointer (some ⟨gq, 0, none⟩)) (wn_none rfl) rfl (rd_move rfl rfl) ?_
    refine GL_call (wn_none rfl) rfl rfl (gu_Roles gq rm pm cr cp RA PA mk ct _ ⟨hp.get 0 rfl, hp.get 1 rfl, hp.get 2 rfl, hp.get 3 rfl⟩ hO (by rw [hG.rlen hO]; omega)) rfl ?_
    rintro vr w ⟨xs, hxs, hk⟩
    have hp := hp.comp hk
    rw [hG.roles hO hxs] at hp
    obtain ⟨Ar, cr2, rfl⟩ := row_shape (hp.get 0 rfl)
    refine GL_rd (v := .slice _ _ _) (wn_none rfl) rfl (rd_assign rfl rfl) ?_
    refine GL_nil ?_
    refine GW_seq ?_
    refine GW_seq ?_
    refine GW_region ?_
    refine GL_rd (v := .slice _ _ _) (wn_none rfl) rfl (rd_move rfl rfl) ?_
    refine GL_rd (wn_none rfl) rfl (rd_len rfl rfl Try.underlying56) ?_
    refine GL_rd (wn_none rfl) rfl (rd_field rfl rfl fa51_0 _ rfl) ?_
    refine GL_rd (v := .slice _ _ _) (wn_none rfl) rfl (rd_load rfl rfl Try.underlying48 rfl ((cell_of_cells (hp.get 7 rfl) _).trans rfl)) ?_
    refine GL_rd (wn_none rfl) rfl (rd_len rfl rfl Try.underlying48) ?_
    refine GL_rd (wn_none rfl) rfl (rd_bin rfl rfl rfl (bo_boolE (q := false) bo_neq (by rw [List.length_map]; simp))) ?_
    refine GL_nil ?_
    refine GW_false rfl ?_
    refine GW_skip ?_
    refine GW_seq ?_
    refine GW_seq ?_
    refine GW_region ?_
    refine GL_rd (v := .int _ _) (wn_none rfl) rfl (rd_assign rfl rfl) ?_
    refine GL_nil ?_
    refine GW_block ?_
    refine GW_loop ?_
    refine Lp_ind (α := Nat × Option Addr × Option Addr) (fun a_0 f_0 w' => match a_0 with | (i, AR, Ar) => ∃ fz, f_0 = (upd (upd (upd (upd (upd fz 10 (.slice Ar (R.map (·.1)).length cr2)) 11 (.int .i64 (i : Int))) 2 (.int .i64 op)) 7 (.pointer (some ⟨gq, 0, none⟩))) 8 (.pointer (some ⟨g, 0, none⟩))) ∧ Hp w0 [] w' [cells gq 137 [.map (some rm), .map (some pm)], .blk rm (.map ⟨alE RA⟩ cr), .blk pm (.map ⟨alE PA⟩ cp), packL (rowsG 9 PA ct), .row 61 2 (.slice AR R.length cR) (R).length ((R).flatMap roC), .row 128 2 (.slice AL L.length cL) (L).length ((L).flatMap haC), cells g 51 [.slice AR R.length cR, .slice AL L.length cL], .row 59 2 (.slice Ar (R.map (·.1)).length cr2) (R.map (·.1)).length ((R.map (·.1)).flatMap fun s => rolC s (mk s))] ∧ (i ≤ R.length)) (fun a_0 => match a_0 with | (i, AR, Ar) => R.length - i) ?_ (0, AR, Ar) _ _ ?_
    ·rintro ⟨i, AR, Ar⟩ f wz ⟨fz, rfl, hp, hi0⟩ ihL0
     refine Lp_round ?_
     refine GW_seq ?_
     refine GW_seq ?_
     refine GW_region ?_
     refine GL_rd (v := .int _ _) (wn_none rfl) rfl (rd_move rfl rfl) ?_
     refine GL_rd (v := .slice _ _ _) (wn_none rfl) rfl (rd_move rfl rfl) ?_
     refine GL_rd (wn_none rfl) rfl (rd_len rfl rfl Try.underlying56) ?_
     refine GL_rd (wn_none rfl) rfl (rd_bin rfl rfl rfl bo_lss) ?_
     refine GL_nil ?_
     refine GW_cond rfl (fun hb3 => ?_) (fun hb3 => ?_)
     ·(try simp only [decide_eq_true_eq, decide_eq_false_iff_not, Bool.not_eq_true', Bool.not_eq_false', Bool.not_eq_eq_eq_not, Bool.not_true, Bool.not_false, Int.not_lt, Int.not_le] at hb3)
      have hiR : i < R.length := by have := hb3; rw [List.length_map] at this; omega
      obtain ⟨gr, br, rfl⟩ := (Sl.row (hp.get 7 rfl)).addr (by rw [flat_length (sz := 2) (fun _ => rfl), List.length_map]; omega)
      obtain ⟨gR, bR, rfl⟩ := (Sl.row (hp.get 4 rfl)).addr (by rw [flat_length roC_len]; omega)
      refine GW_skip ?_
      refine GW_seq ?_
      refine GW_block ?_
      refine GW_seq ?_
      refine GW_drawnK 29 (.one 0 true (.one 1 true (.one 2 true (.one 3 true (.one 4 true (.one 5 true (.one 6 true (.one 7 true (.one 8 true (.one 9 true (.one 10 true (.one 11 true (.one 12 true (.one 13 true (.one 14 true (.one 15 true (.one 16 true (.one 17 true (.one 19 true (.one 20 true (.one 21 true (.one 22 true (.one 23 true (.one 24 true (.one 18 false (.one 25 false (.one 26 false (.one 27 true (.one 28 true .nil))))))))))))))))))))))))))))) mixed (by kernel_rfl) hp (fun _ h => h) fun w hp => ?_
      have hpS4 := hp
      refine GO_rdT (v := .slice _ _ _) rfl (wn_none rfl) rfl (fun w => (rd_move rfl rfl)) ?_
      refine GO_rdT (v := .int _ _) rfl (wn_none rfl) rfl (fun w => (rd_move rfl rfl)) ?_
      refine GO_rdT rfl (wn_none rfl) rfl (fun w => (rd_indexS (j := i) rfl rfl rfl Try.underlying56 ts59 rfl (by rw [List.length_map]; omega) _ rfl)) ?_
      refine GO_rdT rfl (wn_none rfl) rfl (fun w => (rd_field rfl rfl fa59_0 _ rfl)) ?_
      refine GO_rd rfl rfl (wn_none rfl) rfl hpS4 (fun w hp => (rd_load rfl rfl Try.underlying9 rfl (Sl.rlE (Sl.row (hp.get 7 rfl)) i (by rw [List.length_map]; omega) (rl_name _)))) ?_
      refine GO_rdT rfl (wn_none rfl) rfl (fun w => (rd_field rfl rfl fa51_0 _ rfl)) ?_
      refine GO_rd (v := .slice _ _ _) rfl rfl (wn_none rfl) rfl hpS4 (fun w hp => (rd_load rfl rfl Try.underlying48 rfl ((cell_of_cells (hp.get 6 rfl) _).trans rfl))) ?_
      refine GO_rdT (v := .int _ _) rfl (wn_none rfl) rfl (fun w => (rd_move rfl rfl)) ?_
      refine GO_rdT rfl (wn_none rfl) rfl (fun w => (rd_indexS (j := i) rfl rfl rfl Try.underlying48 ts61 rfl (by omega) _ rfl)) ?_
      refine GO_rdT rfl (wn_none rfl) rfl (fun w => (rd_field rfl rfl fa61_0 _ rfl)) ?_
      refine GO_rd rfl rfl (wn_none rfl) rfl hpS4 (fun w hp => (rd_load rfl rfl Try.underlying9 rfl (Sl.roE (Sl.row (hp.get 4 rfl)) i (by first | omega | assumption | exact Nat.lt_succ_self _) (ro_name _)))) ?_
      refine GO_rd rfl rfl (wn_none rfl) rfl hpS4 (fun w hp => (rd_bin rfl rfl rfl bo_sneq)) ?_
      refine GO_rdT (v := .bool _) rfl (wn_none rfl) rfl (fun w => (rd_move rfl rfl)) ?_
      refine GO_split (t := 70) (b := _) rfl ?_ ?_
      ·intro hb4; (try simp only [decide_eq_true_eq, decide_eq_false_iff_not, Bool.not_eq_true', Bool.not_eq_false', Bool.not_eq_eq_eq_not, Bool.not_true, Bool.not_false, Int.not_lt, Int.not_le] at hb4)
       exact absurd (strAt_names R i (by omega)) hb4
      ·intro hb4; (try simp only [decide_eq_true_eq, decide_eq_false_iff_not, Bool.not_eq_true', Bool.not_eq_false', Bool.not_eq_eq_eq_not, Bool.not_true, Bool.not_false, Int.not_lt, Int.not_le] at hb4)
       refine GO_rdT (v := .slice _ _ _) rfl (wn_on rfl rfl rfl rfl) rfl (fun w => (rd_move rfl rfl)) ?_
       refine GO_rdT (v := .int _ _) rfl (wn_on rfl rfl rfl rfl) rfl (fun w => (rd_move rfl rfl)) ?_
       refine GO_rdT rfl (wn_on rfl rfl rfl rfl) rfl (fun w => (rd_indexS (j := i) rfl rfl rfl Try.underlying56 ts59 rfl (by rw [List.length_map]; omega) _ rfl)) ?_
       refine GO_rdT rfl (wn_on rfl rfl rfl rfl) rfl (fun w => (rd_field rfl rfl fa59_1 _ rfl)) ?_
       refine GO_rd rfl rfl (wn_on rfl rfl rfl rfl) rfl hpS4 (fun w hp => (rd_load rfl rfl Try.underlying38 rfl (Sl.rlE (Sl.row (hp.get 7 rfl)) i (by rw [List.length_map]; omega) (rl_bits _)))) ?_
       refine GO_rdT rfl (wn_on rfl rfl rfl rfl) rfl (fun w => (rd_field rfl rfl fa51_0 _ rfl)) ?_
       refine GO_rd (v := .slice _ _ _) rfl rfl (wn_on rfl rfl rfl rfl) rfl hpS4 (fun w hp => (rd_load rfl rfl Try.underlying48 rfl ((cell_of_cells (hp.get 6 rfl) _).trans rfl))) ?_
       refine GO_rdT (v := .int _ _) rfl (wn_on rfl rfl rfl rfl) rfl (fun w => (rd_move rfl rfl)) ?_
       refine GO_rdT rfl (wn_on rfl rfl rfl rfl) rfl (fun w => (rd_indexS (j := i) rfl rfl rfl Try.underlying48 ts61 rfl (by omega) _ rfl)) ?_
       refine GO_rdT rfl (wn_on rfl rfl rfl rfl) rfl (fun w => (rd_field rfl rfl fa61_1 _ rfl)) ?_
       refine GO_rd rfl rfl (wn_on rfl rfl rfl rfl) rfl hpS4 (fun w hp => (rd_load rfl rfl Try.underlying36 rfl (Sl.roE (Sl.row (hp.get 4 rfl)) i (by first | omega | assumption | exact Nat.lt_succ_self _) (ro_ops _)))) ?_
       refine GO_of_GL rfl ?_
       refine GL_call (wn_on rfl rfl rfl rfl) rfl rfl (gu_Ops (mk (strAt (R.map (·.1)) i)) _) rfl ?_
       intro va w hk
       have hp := hp.comp hk
       have hpS5 := (hp.sub (.cons _ (.cons_cons _ (.cons_cons _ (.cons_cons _ (.cons_cons _ (.cons_cons _ (.cons_cons _ (.cons_cons _ (.cons_cons _ .slnil))))))))))
       refine GL_nil ⟨fun _ => hpS5, ?_⟩
       refine GO_of_GL rfl ?_
       refine GL_call (wn_on rfl rfl rfl rfl) rfl rfl (ref_gOps _ _ (roAt R i).2.2 _ (hRo _ (fun x hx => (hlo x hx).keep hp.mod) _ (roAt_mem (by omega)))) rfl ?_
       intro vb w hk
       have hp := hp.comp hk
       have hpS6 := (hp.sub (.cons _ (.cons _ (.cons_cons _ (.cons_cons _ (.cons_cons _ (.cons_cons _ (.cons_cons _ (.cons_cons _ (.cons_cons _ (.cons_cons _ .slnil)))))))))))
       refine GL_nil ⟨fun _ => hpS6, ?_⟩
       refine GO_of_GL rfl ?_
       refine GL_call (wn_on rfl rfl rfl rfl) rfl rfl (law_gints _ _ _ _ (opsK (mk (strAt (R.map (·.1)) i)) 18) (opsL (roAt R i).2.2 18) _ (Sl.row (hp.get 1 rfl)) (Sl.row (hp.get 0 rfl))) rfl ?_
       rintro v0 w ⟨hv, hk⟩
       have hp := hp.comp hk
       obtain rfl : v0 = .bool true := hv.trans (by rw [strAt_names R i (by omega), hG.mks _ (roAt_mem (by omega)), decide_eq_true (ops_same _)])
       have hpS7 := (hp.sub (.cons _ (.cons _ (.cons_cons _ (.cons_cons _ (.cons_cons _ (.cons_cons _ (.cons_cons _ (.cons_cons _ (.cons_cons _ (.cons_cons _ .slnil)))))))))))
       refine GL_nil ⟨fun _ => hpS7, ?_⟩
       refine GO_rd rfl rfl (wn_on rfl rfl rfl rfl) rfl hpS7 (fun w hp => (rd_not rfl rfl)) ?_
       refine GO_rdT (v := .bool _) rfl (wn_none rfl) rfl (fun w => (rd_pickF rfl rfl rfl)) ?_
       refine GO_nil ?_
       refine GW_false rfl ?_
       refine GW_skip ?_
       refine GW_region ?_
       refine GL_rd (v := .int _ _) (wn_none rfl) rfl (rd_move rfl rfl) ?_
       refine GL_rd (wn_none rfl) rfl (rd_bin rfl rfl rfl (bo_add64 (by omega))) ?_
       refine GL_rd (v := .int _ _) (wn_none rfl) rfl (rd_assign rfl rfl) ?_
       refine GL_nil ?_
       have hp := (((((((((hp.front 9 rfl).front 9 rfl).front 9 rfl).front 9 rfl).front 9 rfl).front 9 rfl).front 9 rfl).front 9 rfl).take 8)
       exact ihL0 (i + 1, _, _) _ _ (by simp only []; omega) ⟨_, slots5 rfl rfl rfl rfl rfl, hp, by omega⟩
     ·(try simp only [decide_eq_true_eq, decide_eq_false_iff_not, Bool.not_eq_true', Bool.not_eq_false', Bool.not_eq_eq_eq_not, Bool.not_true, Bool.not_false, Int.not_lt, Int.not_le] at hb3)
      refine GW_exit ?_
      refine GW_seq ?_
      refine GW_region ?_
      refine GL_rd (v := .pointer (some ⟨gq, 0, none⟩)) (wn_none rfl) rfl (rd_move rfl rfl) ?_
      refine GL_rd (v := .int _ _) (wn_none rfl) rfl (rd_move rfl rfl) ?_
      refine GL_call (wn_none rfl) rfl rfl (gu_Who gq rm pm cr cp RA PA mk ct op _ ⟨hp.get 0 rfl, hp.get 1 rfl, hp.get 2 rfl, hp.get 3 rfl⟩ hO (by rw [hG.plen hO]; omega)) rfl ?_
      rintro vw w ⟨xs2, hxs2, hk⟩
      have hp := hp.comp hk
      rw [hG.sorted hO hxs2] at hp
      obtain ⟨Aw, cw, rfl⟩ := row_shape (hp.get 0 rfl)
      refine GL_rd (v := .slice _ _ _) (wn_none rfl) rfl (rd_assign rfl rfl) ?_
      refine GL_nil ?_
      refine GW_seq ?_
      refine GW_region ?_
      refine GL_rd (wn_none rfl) rfl (rd_loadC rfl rfl Try.underlying51 rfl ts51 (hp.get 7 rfl) (by first | (rw [bys_length]; first | exact a32_len _) | rfl | simp [bys_length, *])) ?_
      refine GL_call (wn_none rfl) rfl rfl (ref_gPeople _ _ R L _ (Sl.row (hp.get 5 rfl)) (Sl.row (hp.get 6 rfl)) (by omega)) rfl ?_
      intro vp w hk
      have hp := hp.comp hk
      obtain ⟨Ap, cp2, rfl⟩ := row_shape (hp.get 0 rfl)
      refine GL_rd (v := .slice _ _ _) (wn_none rfl) rfl (rd_assign rfl rfl) ?_
      refine GL_nil ?_
      refine GW_seq ?_
      refine GW_region ?_
      refine GL_rd (v := .int _ _) (wn_none rfl) rfl (rd_assign rfl rfl) ?_
      refine GL_nil ?_
      refine GW_seq ?_
      refine GW_seq ?_
      refine GW_region ?_
      refine GL_rd (v := .int _ _) (wn_none rfl) rfl (rd_assign rfl rfl) ?_
      refine GL_nil ?_
      refine GW_block ?_
      refine GW_loop ?_
      refine Lp_ind (α := Nat × Option Addr × Option Addr) (fun a_0 f_0 w' => match a_0 with | (i, Ap, Aw) => ∃ fz, f_0 = (upd (upd (upd (upd (upd (upd fz 12 (.slice Aw ((peoL L).filter (fun s => mayB mk ct s op)).length cw)) 13 (.slice Ap (peoL L).length cp2)) 14 (.int .i64 ((((peoL L).take i).filter (fun s => mayB mk ct s op)).length : Int))) 15 (.int .i64 (i : Int))) 2 (.int .i64 op)) 8 (.pointer (some ⟨g, 0, none⟩))) ∧ Hp w0 [] w' [cells gq 137 [.map (some rm), .map (some pm)], .blk rm (.map ⟨alE RA⟩ cr), .blk pm (.map ⟨alE PA⟩ cp), packL (rowsG 9 PA ct), .row 61 2 (.slice AR R.length cR) (R).length ((R).flatMap roC), .row 128 2 (.slice AL L.length cL) (L).length ((L).flatMap haC), cells g 51 [.slice AR R.length cR, .slice AL L.length cL], .row 9 1 (.slice Aw ((peoL L).filter (fun s => mayB mk ct s op)).length cw) (((peoL L).filter (fun s => mayB mk ct s op))).length ((((peoL L).filter (fun s => mayB mk ct s op))).map Value.string), .row 9 1 (.slice Ap (peoL L).length cp2) ((peoL L)).length (((peoL L)).map Value.string)] ∧ (i ≤ (peoL L).length)) (fun a_0 => match a_0 with | (i, Ap, Aw) => (peoL L).length - i) ?_ (0, Ap, Aw) _ _ ?_
      ·rintro ⟨i, Ap, Aw⟩ f wz ⟨fz, rfl, hp, hi0⟩ ihL1
       have hfl := List.length_filter_le (fun s => mayB mk ct s op) ((peoL L).take i)
       rw [List.length_take] at hfl
       refine Lp_round ?_
       refine GW_seq ?_
       refine GW_seq ?_
       refine GW_region ?_
       refine GL_rd (v := .int _ _) (wn_none rfl) rfl (rd_move rfl rfl) ?_
       refine GL_rd (v := .slice _ _ _) (wn_none rfl) rfl (rd_move rfl rfl) ?_
       refine GL_rd (wn_none rfl) rfl (rd_len rfl rfl Try.underlying62) ?_
       refine GL_rd (wn_none rfl) rfl (rd_bin rfl rfl rfl bo_lss) ?_
       refine GL_nil ?_
       refine GW_cond rfl (fun hb5 => ?_) (fun hb5 => ?_)
       ·(try simp only [decide_eq_true_eq, decide_eq_false_iff_not, Bool.not_eq_true', Bool.not_eq_false', Bool.not_eq_eq_eq_not, Bool.not_true, Bool.not_false, Int.not_lt, Int.not_le] at hb5)
        obtain ⟨gp, bp, rfl⟩ := (Sl.row (hp.get 8 rfl)).addr (by rw [List.length_map]; omega)
        refine GW_skip ?_
        refine GW_seq ?_
        refine GW_block ?_
        refine GW_seq ?_
        refine GW_drawnK 7 (.one 0 true (.one 1 true (.one 2 true (.one 3 true (.one 4 true (.one 5 true (.one 6 false .nil))))))) mixed (by kernel_rfl) hp (fun _ h => h) fun w hp => ?_
        have hpS8 := hp
        refine GO_rd rfl rfl (wn_none rfl) rfl hpS8 (fun w hp => (rd_loadC rfl rfl Try.underlying51 rfl ts51 (hp.get 6 rfl) (by first | (rw [bys_length]; first | exact a32_len _) | rfl | simp [bys_length, *]))) ?_
        refine GO_rdT (v := .slice _ _ _) rfl (wn_none rfl) rfl (fun w => (rd_move rfl rfl)) ?_
        refine GO_rdT (v := .int _ _) rfl (wn_none rfl) rfl (fun w => (rd_move rfl rfl)) ?_
        refine GO_rdT rfl (wn_none rfl) rfl (fun w => (rd_indexS (j := i) rfl rfl rfl Try.underlying62 ts9 rfl (by omega) _ rfl)) ?_
        refine GO_rd rfl rfl (wn_none rfl) rfl hpS8 (fun w hp => (rd_load rfl rfl Try.underlying9 rfl ((Sl.row (hp.get 8 rfl)).get _ _ (strAt_cell (l := (peoL L)) (i := i) (by omega))))) ?_
        refine GO_rdT (v := .int _ _) rfl (wn_none rfl) rfl (fun w => (rd_move rfl rfl)) ?_
        refine GO_of_GL rfl ?_
        refine GL_call (wn_none rfl) rfl rfl (ref_gMay _ _ R L (strAt (peoL L) i) op _ (Sl.row (hp.get 4 rfl)) (Sl.row (hp.get 5 rfl)) (hRo _ fun x hx => (hlo x hx).keep hp.mod) hG.inR) rfl ?_
        rintro _ w ⟨rfl, hk⟩
        have hp := hp.comp hk
        have hpS9 := hp
        refine GL_nil ⟨fun _ => hpS9, ?_⟩
        refine GO_nil ?_
        refine GW_cond rfl (fun hb6 => ?_) (fun hb6 => ?_)
        ·(try simp only [decide_eq_true_eq, decide_eq_false_iff_not, Bool.not_eq_true', Bool.not_eq_false', Bool.not_eq_eq_eq_not, Bool.not_true, Bool.not_false, Int.not_lt, Int.not_le] at hb6)
         have hm2 : (fun s => mayB mk ct s op) (strAt (peoL L) i) = true := (hG.may _ _).trans hb6
         obtain ⟨hf1, hf2⟩ := filtS_at (l := (peoL L)) (i := i) (p := (fun s => mayB mk ct s op)) (by omega) hm2
         obtain ⟨gw, bw, rfl⟩ := (Sl.row (hp.get 7 rfl)).addr (by rw [List.length_map]; omega)
         refine GW_seq ?_
         refine GW_seq ?_
         refine GW_drawnK 15 (.one 0 true (.one 1 true (.one 2 true (.one 3 true (.one 4 true (.one 5 true (.one 6 true (.one 7 true (.one 8 true (.one 9 true (.one 10 true (.one 11 true (.one 12 true (.one 13 true (.one 14 true .nil))))))))))))))) mixed (by kernel_rfl) hp (fun _ h => h) fun w hp => ?_
         have hpS10 := hp
         refine GO_rdT (v := .int _ _) rfl (wn_none rfl) rfl (fun w => (rd_move rfl rfl)) ?_
         refine GO_rdT (v := .slice _ _ _) rfl (wn_none rfl) rfl (fun w => (rd_move rfl rfl)) ?_
         refine GO_rd rfl rfl (wn_none rfl) rfl hpS10 (fun w hp => (rd_len rfl rfl Try.underlying62)) ?_
         refine GO_rd rfl rfl (wn_none rfl) rfl hpS10 (fun w hp => (rd_bin rfl rfl rfl bo_geq)) ?_
         refine GO_rdT (v := .bool _) rfl (wn_none rfl) rfl (fun w => (rd_move rfl rfl)) ?_
         refine GO_split (t := 109) (b := _) rfl ?_ ?_
         ·intro hb7; (try simp only [decide_eq_true_eq, decide_eq_false_iff_not, Bool.not_eq_true', Bool.not_eq_false', Bool.not_eq_eq_eq_not, Bool.not_true, Bool.not_false, Int.not_lt, Int.not_le] at hb7)
          exact absurd hf1 (by have := hb7; omega)
         ·intro hb7; (try simp only [decide_eq_true_eq, decide_eq_false_iff_not, Bool.not_eq_true', Bool.not_eq_false', Bool.not_eq_eq_eq_not, Bool.not_true, Bool.not_false, Int.not_lt, Int.not_le] at hb7)
          refine GO_rdT (v := .slice _ _ _) rfl (wn_on rfl rfl rfl rfl) rfl (fun w => (rd_move rfl rfl)) ?_
          refine GO_rdT (v := .int _ _) rfl (wn_on rfl rfl rfl rfl) rfl (fun w => (rd_move rfl rfl)) ?_
          refine GO_rdT rfl (wn_on rfl rfl rfl rfl) rfl (fun w => (rd_indexS (j := (((peoL L).take i).filter (fun s => mayB mk ct s op)).length) rfl rfl rfl Try.underlying62 ts9 rfl (by omega) _ rfl)) ?_
          refine GO_rd rfl rfl (wn_on rfl rfl rfl rfl) rfl hpS10 (fun w hp => (rd_load rfl rfl Try.underlying9 rfl ((Sl.row (hp.get 7 rfl)).get _ _ (strAt_cell (l := ((peoL L).filter (fun s => mayB mk ct s op))) (i := (((peoL L).take i).filter (fun s => mayB mk ct s op)).length) (by omega))))) ?_
          refine GO_rdT (v := .slice _ _ _) rfl (wn_on rfl rfl rfl rfl) rfl (fun w => (rd_move rfl rfl)) ?_
          refine GO_rdT (v := .int _ _) rfl (wn_on rfl rfl rfl rfl) rfl (fun w => (rd_move rfl rfl)) ?_
          refine GO_rdT rfl (wn_on rfl rfl rfl rfl) rfl (fun w => (rd_indexS (j := i) rfl rfl rfl Try.underlying62 ts9 rfl (by omega) _ rfl)) ?_
          refine GO_rd rfl rfl (wn_on rfl rfl rfl rfl) rfl hpS10 (fun w hp => (rd_load rfl rfl Try.underlying9 rfl ((Sl.row (hp.get 8 rfl)).get _ _ (strAt_cell (l := (peoL L)) (i := i) (by omega))))) ?_
          refine GO_rd rfl rfl (wn_on rfl rfl rfl rfl) rfl hpS10 (fun w hp => (rd_bin rfl rfl rfl bo_sneq)) ?_
          refine GO_rdT (v := .bool _) rfl (wn_none rfl) rfl (fun w => (rd_pickF rfl rfl rfl)) ?_
          refine GO_nil ?_
          refine GW_cond rfl (fun hb8 => ?_) (fun hb8 => ?_)
          ·(try simp only [decide_eq_true_eq, decide_eq_false_iff_not, Bool.not_eq_true', Bool.not_eq_false', Bool.not_eq_eq_eq_not, Bool.not_true, Bool.not_false, Int.not_lt, Int.not_le] at hb8)
           exact absurd hf2 hb8
          ·(try simp only [decide_eq_true_eq, decide_eq_false_iff_not, Bool.not_eq_true', Bool.not_eq_false', Bool.not_eq_eq_eq_not, Bool.not_true, Bool.not_false, Int.not_lt, Int.not_le] at hb8)
           refine GW_skip ?_
           refine GW_region ?_
           refine GL_rd (v := .int _ _) (wn_none rfl) rfl (rd_move rfl rfl) ?_
           refine GL_rd (wn_none rfl) rfl (rd_bin rfl rfl rfl (bo_add64 (by omega))) ?_
           refine GL_rd (v := .int _ _) (wn_none rfl) rfl (rd_assign rfl rfl) ?_
           refine GL_nil ?_
           refine GW_region ?_
           refine GL_rd (v := .int _ _) (wn_none rfl) rfl (rd_move rfl rfl) ?_
           refine GL_rd (wn_none rfl) rfl (rd_bin rfl rfl rfl (bo_add64 (by omega))) ?_
           refine GL_rd (v := .int _ _) (wn_none rfl) rfl (rd_assign rfl rfl) ?_
           refine GL_nil ?_
           have hp := ((((((((((hp.front 8 rfl).front 8 rfl).front 8 rfl).front 8 rfl).front 8 rfl).front 8 rfl).front 8 rfl).front 8 rfl).front 8 rfl).take 9)
           exact ihL1 (i + 1, _, _) _ _ (by simp only []; omega) ⟨_, slots6 rfl rfl (by first | (rw [filtS_yes (by omega) hm2, List.length_append]; rfl) | (rw [filtS_no (by omega) hm2]; done) | (rw [filtS_no (by omega) hm2]; rfl)) rfl rfl rfl, hp, by omega⟩
        ·(try simp only [decide_eq_true_eq, decide_eq_false_iff_not, Bool.not_eq_true', Bool.not_eq_false', Bool.not_eq_eq_eq_not, Bool.not_true, Bool.not_false, Int.not_lt, Int.not_le] at hb6)
         have hm2 : (fun s => mayB mk ct s op) (strAt (peoL L) i) = false := (hG.may _ _).trans hb6
         refine GW_skip ?_
         refine GW_region ?_
         refine GL_rd (v := .int _ _) (wn_none rfl) rfl (rd_move rfl rfl) ?_
         refine GL_rd (wn_none rfl) rfl (rd_bin rfl rfl rfl (bo_add64 (by omega))) ?_
         refine GL_rd (v := .int _ _) (wn_none rfl) rfl (rd_assign rfl rfl) ?_
         refine GL_nil ?_
         have hp := ((((((((((hp.front 8 rfl).front 8 rfl).front 8 rfl).front 8 rfl).front 8 rfl).front 8 rfl).front 8 rfl).front 8 rfl).front 8 rfl).take 9)
         exact ihL1 (i + 1, _, _) _ _ (by simp only []; omega) ⟨_, slots6 rfl rfl (by first | (rw [filtS_yes (by omega) hm2, List.length_append]; rfl) | (rw [filtS_no (by omega) hm2]; done) | (rw [filtS_no (by omega) hm2]; rfl)) rfl rfl rfl, hp, by omega⟩
       ·(try simp only [decide_eq_true_eq, decide_eq_false_iff_not, Bool.not_eq_true', Bool.not_eq_false', Bool.not_eq_eq_eq_not, Bool.not_true, Bool.not_false, Int.not_lt, Int.not_le] at hb5)
        have hil : i = (peoL L).length := by omega
        refine GW_exit ?_
        refine GW_seq ?_
        refine GW_region ?_
        refine GL_rd (v := .int _ _) (wn_none rfl) rfl (rd_move rfl rfl) ?_
        refine GL_rd (v := .slice _ _ _) (wn_none rfl) rfl (rd_move rfl rfl) ?_
        refine GL_rd (wn_none rfl) rfl (rd_len rfl rfl Try.underlying62) ?_
        refine GL_rd (wn_none rfl) rfl (rd_bin rfl rfl rfl (bo_boolE (q := true) bo_eql (by rw [List.take_of_length_le (by omega)]; simp))) ?_
        refine GL_rd (v := .bool _) (wn_none rfl) rfl (rd_move rfl rfl) ?_
        refine GL_call (wn_on rfl rfl rfl rfl) rfl rfl (law_gworks _) rfl ?_
        rintro _ w ⟨rfl, hk⟩
        have hp := hp.comp hk
        refine GL_rd (v := .bool _) (wn_none rfl) rfl (rd_pickT rfl rfl rfl) ?_
        refine GL_rd (v := .bool _) (wn_none rfl) rfl (rd_assign rfl rfl) ?_
        refine GL_nil ?_
        refine GW_ret ?_
        exact ⟨_, res1 Try.results5 (rv_tmp (v := .bool _) rfl rfl), rfl, hp.mods⟩
      ·have hp := ((((((((((hp.front 0 rfl).front 1 rfl).front 8 rfl).front 8 rfl).front 8 rfl).front 8 rfl).front 8 rfl).front 8 rfl).front 8 rfl).take 9)
       refine ⟨_, slots6 rfl rfl rfl rfl rfl rfl, hp, Nat.zero_le _⟩
    ·have hp := (((((((((hp.front 0 rfl).front 7 rfl).front 7 rfl).front 7 rfl).front 7 rfl).front 7 rfl).front 7 rfl).front 7 rfl).take 8)
     refine ⟨_, slots5 rfl rfl rfl rfl rfl, hp, Nat.zero_le _⟩
set_option maxHeartbeats 8000000 in
theorem law_GuardDeeds (sv : Value) (l : List OpR) (who : ByteArray) (rq : Rq) (other : Int) (w0 : World) (hl : Sl w0 sv 4 l.length (l.flatMap goC)) (hlo : okG w0 l) (htx : ∃ A n c, rq.text = .slice A n c) (hrl : rq.list.oneCell' = true) : Does Try.prog 6 #[sv, .string who, .agg ⟨rqC rq⟩, .int .i64 other] w0 fun v w' => v = .bool true ∧ Hp w0 [] w' [] := by
 obtain ⟨A, c, rfl⟩ := sl_shape hl
 have hlle := hl.le
 obtain ⟨At, nt, ct0, htx⟩ := htx
 have hrq1 : rq.one := ⟨by rw [htx]; rfl, hrl⟩
 refine does_of (l := [.slice A l.length c, .string who, .agg ⟨rqC rq⟩, .int .i64 other]) Try.func6 (by kernel_rfl) rfl Try.ntmps6 rfl rfl (by kernel_rfl) ?_
 have hp := Hp.refl w0 []
 refine GW_seq ?_
 refine GW_region ?_
 refine GL_box (wn_none rfl) rfl rfl rfl rfl hp ?_
 intro g w hp
 refine GL_box (wn_none rfl) rfl rfl rfl rfl hp ?_
 intro g2 w hp
 refine GL_rd (v := .bool _) (wn_none rfl) rfl (rd_assign rfl rfl) ?_
 refine GL_nil ?_
 refine GW_seq ?_
 refine GW_seq ?_
 refine GW_region ?_
 refine GL_rd (v := .slice _ _ _) (wn_none rfl) rfl (rd_move rfl rfl) ?_
 refine GL_call (wn_none rfl) rfl rfl (law_glight _ l _ (hl.keep hp.mod) (fun x hx => (hlo x hx).keep hp.mod)) rfl ?_
 rintro _ w ⟨bl, rfl, hbl, hk⟩
 have hp := hp.comp hk
 refine GL_rd (wn_none rfl) rfl (rd_not rfl rfl) ?_
 refine GL_rd (v := .bool _) (wn_none rfl) rfl (rd_move rfl rfl) ?_
 refine GL_split (t := 22) (b := _) rfl ?_ ?_
 ·intro hb; (try simp only [decide_eq_true_eq, decide_eq_false_iff_not, Bool.not_eq_true', Bool.not_eq_false', Bool.not_eq_eq_eq_not, Bool.not_true, Bool.not_false, Int.not_lt, Int.not_le] at hb)
  refine GL_pass (nw_off rfl rfl rfl rfl rfl) rfl ?_
  refine GL_pass (nw_off rfl rfl rfl rfl rfl) rfl ?_
  refine GL_pass (nw_off rfl rfl rfl rfl rfl) rfl ?_
  refine GL_rd (v := .bool _) (wn_none rfl) rfl (rd_pickT rfl rfl rfl) ?_
  refine GL_rd (v := .bool _) (wn_none rfl) rfl (rd_move rfl rfl) ?_
  refine GL_pass (nw_off rfl rfl rfl rfl rfl) rfl ?_
  refine GL_pass (nw_off rfl rfl rfl rfl rfl) rfl ?_
  refine GL_pass (nw_off rfl rfl rfl rfl rfl) rfl ?_
  refine GL_pass (nw_off rfl rfl rfl rfl rfl) rfl ?_
  refine GL_rd (v := .bool _) (wn_none rfl) rfl (rd_pickT rfl rfl rfl) ?_
  refine GL_nil ?_
  refine GW_true rfl ?_
  refine GW_seq ?_
  refine GW_region ?_
  refine GL_call (wn_none rfl) rfl rfl (law_gworks _) rfl ?_
  rintro _ w ⟨rfl, hk⟩
  have hp := hp.comp hk
  refine GL_rd (v := .bool _) (wn_none rfl) rfl (rd_assign rfl rfl) ?_
  refine GL_nil ?_
  refine GW_ret ?_
  exact ⟨_, res1 Try.results6 (rv_tmp (v := .bool _) rfl rfl), rfl, hp.mods⟩
 ·intro hb; (try simp only [decide_eq_true_eq, decide_eq_false_iff_not, Bool.not_eq_true', Bool.not_eq_false', Bool.not_eq_eq_eq_not, Bool.not_true, Bool.not_false, Int.not_lt, Int.not_le] at hb)
  have hli := hbl hb
  refine GL_rd (wn_on rfl rfl rfl rfl) rfl (rd_load rfl rfl Try.underlying9 rfl ((cell_of_cells (hp.get 1 rfl) _).trans rfl)) ?_
  refine GL_rd (wn_on rfl rfl rfl rfl) rfl (rd_lenS rfl rfl Try.underlying9) ?_
  refine GL_rd (wn_on rfl rfl rfl rfl) rfl (rd_bin rfl rfl rfl bo_gtr) ?_
  refine GL_rd (v := .bool _) (wn_none rfl) rfl (rd_pickF rfl rfl rfl) ?_
  refine GL_rd (v := .bool _) (wn_none rfl) rfl (rd_move rfl rfl) ?_
  refine GL_split (t := 27) (b := _) rfl ?_ ?_
  ·intro hb2; (try simp only [decide_eq_true_eq, decide_eq_false_iff_not, Bool.not_eq_true', Bool.not_eq_false', Bool.not_eq_eq_eq_not, Bool.not_true, Bool.not_false, Int.not_lt, Int.not_le] at hb2)
   refine GL_pass (nw_off rfl rfl rfl rfl rfl) rfl ?_
   refine GL_pass (nw_off rfl rfl rfl rfl rfl) rfl ?_
   refine GL_pass (nw_off rfl rfl rfl rfl rfl) rfl ?_
   refine GL_pass (nw_off rfl rfl rfl rfl rfl) rfl ?_
   refine GL_rd (v := .bool _) (wn_none rfl) rfl (rd_pickT rfl rfl rfl) ?_
   refine GL_nil ?_
   refine GW_true rfl ?_
   refine GW_seq ?_
   refine GW_region ?_
   refine GL_call (wn_none rfl) rfl rfl (law_gworks _) rfl ?_
   rintro _ w ⟨rfl, hk⟩
   have hp := hp.comp hk
   refine GL_rd (v := .bool _) (wn_none rfl) rfl (rd_assign rfl rfl) ?_
   refine GL_nil ?_
   refine GW_ret ?_
   exact ⟨_, res1 Try.results6 (rv_tmp (v := .bool _) rfl rfl), rfl, hp.mods⟩
  ·intro hb2; (try simp only [decide_eq_true_eq, decide_eq_false_iff_not, Bool.not_eq_true', Bool.not_eq_false', Bool.not_eq_eq_eq_not, Bool.not_true, Bool.not_false, Int.not_lt, Int.not_le] at hb2)
   refine GL_rd (wn_on rfl rfl rfl rfl) rfl (rd_field rfl rfl fa69_7 _ rfl) ?_
   refine GL_rd (v := .slice _ _ _) (wn_on rfl rfl rfl rfl) rfl (rd_load rfl rfl Try.underlying33 rfl ((cell_of_cells (hp.get 0 rfl) _).trans ((rq_text _).trans (congrArg some htx)))) ?_
   refine GL_rd (wn_on rfl rfl rfl rfl) rfl (rd_len rfl rfl Try.underlying33) ?_
   refine GL_rd (wn_on rfl rfl rfl rfl) rfl (rd_bin rfl rfl rfl bo_gtr) ?_
   refine GL_rd (v := .bool _) (wn_none rfl) rfl (rd_pickF rfl rfl rfl) ?_
   refine GL_nil ?_
   refine GW_cond rfl (fun hb3 => ?_) (fun hb3 => ?_)
   ·(try simp only [decide_eq_true_eq, decide_eq_false_iff_not, Bool.not_eq_true', Bool.not_eq_false', Bool.not_eq_eq_eq_not, Bool.not_true, Bool.not_false, Int.not_lt, Int.not_le] at hb3)
    refine GW_seq ?_
    refine GW_region ?_
    refine GL_call (wn_none rfl) rfl rfl (law_gworks _) rfl ?_
    rintro _ w ⟨rfl, hk⟩
    have hp := hp.comp hk
    refine GL_rd (v := .bool _) (wn_none rfl) rfl (rd_assign rfl rfl) ?_
    refine GL_nil ?_
    refine GW_ret ?_
    exact ⟨_, res1 Try.results6 (rv_tmp (v := .bool _) rfl rfl), rfl, hp.mods⟩
   ·(try simp only [decide_eq_true_eq, decide_eq_false_iff_not, Bool.not_eq_true', Bool.not_eq_false', Bool.not_eq_eq_eq_not, Bool.not_true, Bool.not_false, Int.not_lt, Int.not_le] at hb3)
    refine GW_skip ?_
    refine GW_seq ?_
    refine GW_region ?_
    refine GL_rd (v := .slice _ _ _) (wn_none rfl) rfl (rd_move rfl rfl) ?_
    refine GL_call (wn_none rfl) rfl rfl (law_made _ l _ (hl.keep hp.mod) (fun x hx => (hlo x hx).keep hp.mod) hli) rfl ?_
    rintro _ w ⟨gq, rm, pm, cr, cp, RA, PA, mk, ct, rv, lv, R, L, rfl, hO, hG, hRo, hR1, hL1, hk⟩
    have hp := hp.comp hk
    obtain ⟨AR, cR, rfl⟩ := row_shape (hp.get 4 rfl)
    obtain ⟨AL, cL, rfl⟩ := row_shape (hp.get 5 rfl)
    have hpl := peo_len L
    refine GL_rd (v := .tuple _) (wn_none rfl) rfl (rd_move rfl rfl) ?_
    refine GL_rd (v := .pointer (some ⟨gq, 0, none⟩)) (wn_none rfl) rfl (rd_extract rfl rfl rfl) ?_
    refine GL_rd (v := .agg ⟨_⟩) (wn_none rfl) rfl (rd_extract rfl rfl rfl) ?_
    refine GL_rd (v := .bool _) (wn_none rfl) rfl (rd_extract rfl rfl rfl) ?_
    refine GL_alloc (wn_none rfl) rfl rfl tz51 rfl hp ?_
    intro g3 w hp
    refine GL_rd (v := .pointer (some ⟨gq, 0, none⟩)) (wn_none rfl) rfl (rd_assign rfl rfl) ?_
    refine GL_store (i := 0) (wn_none rfl) rfl rfl rfl rfl ts51 rfl rfl (oneC rfl (oneC rfl one0)) hp rfl (by first | exact Nat.le_of_ble_eq_true rfl | simp [bys_length, *]) rfl ?_
    intro w hp
    refine GL_rd (v := .bool _) (wn_none rfl) rfl (rd_assign rfl rfl) ?_
    refine GL_nil ?_
    refine GW_seq ?_
    refine GW_seq ?_
    refine GW_region ?_
    refine GL_rd (v := .bool _) (wn_none rfl) rfl (rd_move rfl rfl) ?_
    refine GL_rd (wn_none rfl) rfl (rd_not rfl rfl) ?_
    refine GL_nil ?_
    refine GW_false rfl ?_
    refine GW_skip ?_
    refine GW_seq ?_
    refine GW_region ?_
    refine GL_alloc (wn_none rfl) rfl rfl tz3 rfl hp ?_
    intro g4 w hp
    refine GL_store (i := 0) (wn_none rfl) rfl rfl rfl rfl ts3 rfl rfl (one1 rfl) hp rfl (by first | exact Nat.le_of_ble_eq_true rfl | simp [bys_length, *]) rfl ?_
    intro w hp
    refine GL_nil ?_
    refine GW_seq ?_
    refine GW_region ?_
    refine GL_alloc (wn_none rfl) rfl rfl tz4 rfl hp ?_
    intro g5 w hp
    refine GL_store (i := 0) (wn_none rfl) rfl rfl rfl rfl ts4 rfl rfl (one1 rfl) hp rfl (by first | exact Nat.le_of_ble_eq_true rfl | simp [bys_length, *]) rfl ?_
    intro w hp
    refine GL_nil ?_
    refine GW_seq ?_
    refine GW_region ?_
    refine GL_rd (v := .pointer (some ⟨gq, 0, none⟩)) (wn_none rfl) rfl (rd_move rfl rfl) ?_
    refine GL_rd (wn_none rfl) rfl (rd_load rfl rfl Try.underlying9 rfl ((cell_of_cells (hp.get 10 rfl) _).trans rfl)) ?_
    refine GL_rd (wn_none rfl) rfl (rd_loadC rfl rfl Try.underlying69 rfl ts69 (hp.get 9 rfl) (rqC_len _)) ?_
    refine GL_rd (wn_none rfl) rfl (rd_closure (caps := #[.pointer (some ⟨g4, 0, none⟩), .pointer (some ⟨g, 0, none⟩), .pointer (some ⟨g2, 0, none⟩), .pointer (some ⟨g5, 0, none⟩)]) rfl rfl) ?_
    have hp := ((((hp.front 0 rfl).front 9 rfl).front 10 rfl).front 3 rfl)
    have hp := Hp.pack (l := [cells g4 3 [.int .i64 0], cells g 9 [.string who], cells g2 69 (rqC rq), cells g5 4 [.bool true]]) hp
    have hp := (((((hp.front 0 rfl).front 5 rfl).front 5 rfl).front 5 rfl).front 5 rfl)
    refine GL_call (wn_none rfl) rfl rfl (gu_Do gq rm pm cr cp RA PA mk ct who 28 [.pointer (some ⟨g4, 0, none⟩), .pointer (some ⟨g, 0, none⟩), .pointer (some ⟨g2, 0, none⟩), .pointer (some ⟨g5, 0, none⟩)] rq (packL [cells g4 3 [.int .i64 0], cells g 9 [.string who], cells g2 69 (rqC rq), cells g5 4 [.bool true]]) (fun _ : Unit => packL [cells g4 3 [.int .i64 1], cells g 9 [.string who], cells g2 69 (rqC rq), cells g5 4 [.bool true]]) (fun p a => p.n = 7) _ _ (hp.ownsT 5) hO (fun w1 h1 => (law_gDeeds1 g4 g g2 g5 who rq { rq with actor := who } _ w1 (Hp.unpack (l := [cells g4 3 [.int .i64 0], cells g 9 [.string who], cells g2 69 (rqC rq), cells g5 4 [.bool true]]) (H := []) h1) rfl rfl rfl).mono (fun v w' h => ⟨{ rpZ with n := 7 }, (), h.1, ⟨rfl, rfl⟩, rfl, Hp.pack (l := [cells g4 3 [.int .i64 1], cells g 9 [.string who], cells g2 69 (rqC rq), cells g5 4 [.bool true]]) (H := []) h.2⟩))) rfl ?_
    rintro _ w ⟨p1, rfl, hp1, hk⟩
    obtain ⟨hn7, hc14, hk⟩ : (mayB mk ct who rq.op = true → p1.n = 7) ∧ (¬ mayB mk ct who rq.op = true → p1.code = 14) ∧ Hp _ _ w [cells gq 137 [.map (some rm), .map (some pm)], .blk rm (.map ⟨alE RA⟩ cr), .blk pm (.map ⟨alE PA⟩ cp), packL (rowsG 9 PA ct), packL [cells g4 3 [.int .i64 (if mayB mk ct who rq.op = true then 1 else 0)], cells g 9 [.string who], cells g2 69 (rqC rq), cells g5 4 [.bool true]]] := by
      by_cases hmq : mayB mk ct who rq.op = true
      · rw [if_pos hmq] at hk ⊢
        obtain ⟨a1, hC1, hk⟩ := hk
        exact ⟨fun _ => hC1, fun q => absurd hmq q, hk⟩
      · rw [if_neg hmq] at hk ⊢
        obtain ⟨rfl, hk⟩ := hk
        exact ⟨fun q => absurd q hmq, fun _ => rfl, hk⟩
    have hp := hp.turnsT 5 hk
    have hp := Hp.unpack (l := [cells g4 3 [.int .i64 (if mayB mk ct who rq.op = true then 1 else 0)], cells g 9 [.string who], cells g2 69 (rqC rq), cells g5 4 [.bool true]]) (hp.front 4 rfl)
    refine GL_alloc (wn_none rfl) rfl rfl tz71 rfl hp ?_
    intro g6 w hp
    refine GL_store (i := 0) (wn_none rfl) rfl rfl rfl rfl ts71 rfl (rpC_len _) (rpC_one hp1) hp rfl (by first | exact Nat.le_of_ble_eq_true rfl | (rw [rpC_len]; decide)) (splice_all _ _ (by first | rw [rpC_len, rpC_len] | (rw [rpC_len]; rfl))) ?_
    intro w hp
    refine GL_nil ?_
    refine GW_seq ?_
    refine GW_region ?_
    refine GL_rd (wn_none rfl) rfl (rd_loadC rfl rfl Try.underlying51 rfl ts51 (hp.get 9 rfl) (by first | (rw [bys_length]; first | exact a32_len _) | rfl | simp [bys_length, *])) ?_
    refine GL_rd (wn_none rfl) rfl (rd_load rfl rfl Try.underlying9 rfl ((cell_of_cells (hp.get 2 rfl) _).trans rfl)) ?_
    refine GL_rd (wn_none rfl) rfl (rd_field rfl rfl fa69_0 _ rfl) ?_
    refine GL_rd (wn_none rfl) rfl (rd_load rfl rfl Try.underlying3 rfl ((cell_of_cells (hp.get 3 rfl) _).trans (rq_op _))) ?_
    refine GL_call (wn_none rfl) rfl rfl (ref_gMay _ _ R L who rq.op _ (Sl.row (hp.get 10 rfl)) (Sl.row (hp.get 11 rfl)) (hRo _ fun x hx => (hlo x hx).keep hp.mod) hG.inR) rfl ?_
    rintro _ w ⟨rfl, hk⟩
    have hp := hp.comp hk
    refine GL_rd (v := .bool (mayR R L who rq.op)) (wn_none rfl) rfl (rd_assign rfl rfl) ?_
    refine GL_nil ?_
    refine GW_cut (fun f_0 w' => ∃ (fz : _), f_0 = (upd (upd (upd (upd (upd (upd (upd (upd (upd fz 3 (.int .i64 other)) 5 (.pointer (some ⟨g, 0, none⟩))) 6 (.pointer (some ⟨g2, 0, none⟩))) 9 (.pointer (some ⟨gq, 0, none⟩))) 10 (.pointer (some ⟨g3, 0, none⟩))) 12 (.pointer (some ⟨g4, 0, none⟩))) 13 (.pointer (some ⟨g5, 0, none⟩))) 14 (.pointer (some ⟨g6, 0, none⟩))) 15 (.bool (mayR R L who rq.op))) ∧ Hp w0 [] w' [cells gq 137 [.map (some rm), .map (some pm)], .blk rm (.map ⟨alE RA⟩ cr), .blk pm (.map ⟨alE PA⟩ cp), packL (rowsG 9 PA ct), .row 61 2 (.slice AR R.length cR) (R).length ((R).flatMap roC), .row 128 2 (.slice AL L.length cL) (L).length ((L).flatMap haC), cells g 9 [.string who], cells g2 69 (rqC rq), cells g3 51 [.slice AR R.length cR, .slice AL L.length cL]]) ?_ ?_
    ·skip
     refine GW_seq ?_
     refine GW_region ?_
     refine GL_rd (wn_none rfl) rfl (rd_load rfl rfl Try.underlying4 rfl ((cell_of_cells (hp.get 4 rfl) _).trans rfl)) ?_
     refine GL_rd (wn_none rfl) rfl (rd_not rfl rfl) ?_
     refine GL_rd (v := .bool _) (wn_none rfl) rfl (rd_move rfl rfl) ?_
     refine GL_rd (wn_on rfl rfl rfl rfl) rfl (rd_load rfl rfl Try.underlying3 rfl ((cell_of_cells (hp.get 1 rfl) _).trans rfl)) ?_
     refine GL_rd (wn_on rfl rfl rfl rfl) rfl (rd_bin rfl rfl rfl bo_eql) ?_
     refine GL_rd (v := .bool (mayR R L who rq.op)) (wn_on rfl rfl rfl rfl) rfl (rd_move rfl rfl) ?_
     refine GL_rd (wn_on rfl rfl rfl rfl) rfl (rd_bin rfl rfl rfl (bo_boolE (q := false) (bo_bneq Try.underlying4) (by rw [← hG.may]; cases mayB mk ct who rq.op <;> rfl))) ?_
     refine GL_rd (v := .bool _) (wn_none rfl) rfl (rd_pickF rfl rfl rfl) ?_
     refine GL_rd (v := .bool _) (wn_none rfl) rfl (rd_move rfl rfl) ?_
     refine GL_rd (wn_on rfl rfl rfl rfl) rfl (rd_load rfl rfl Try.underlying3 rfl ((cell_of_cells (hp.get 1 rfl) _).trans rfl)) ?_
     refine GL_rd (wn_on rfl rfl rfl rfl) rfl (rd_bin rfl rfl rfl (bo_boolE (q := false) bo_gtr (by split <;> decide))) ?_
     refine GL_rd (v := .bool _) (wn_none rfl) rfl (rd_pickF rfl rfl rfl) ?_
     refine GL_rd (v := .bool _) (wn_none rfl) rfl (rd_move rfl rfl) ?_
     refine GL_rd (v := .bool (mayR R L who rq.op)) (wn_on rfl rfl rfl rfl) rfl (rd_move rfl rfl) ?_
     refine GL_rd (v := .bool (mayR R L who rq.op)) (wn_on rfl rfl rfl rfl) rfl (rd_move rfl rfl) ?_
     refine GL_split (t := 66) (b := _) rfl ?_ ?_
     ·intro hb4; (try simp only [decide_eq_true_eq, decide_eq_false_iff_not, Bool.not_eq_true', Bool.not_eq_false', Bool.not_eq_eq_eq_not, Bool.not_true, Bool.not_false, Int.not_lt, Int.not_le] at hb4)
      have hmy : (mayR R L who rq.op) = true := hb4
      refine GL_rd (wn_on rfl rfl rfl rfl) rfl (rd_field rfl rfl fa71_4 _ rfl) ?_
      refine GL_rd (wn_on rfl rfl rfl rfl) rfl (rd_load rfl rfl Try.underlying3 rfl ((cell_of_cells (hp.get 0 rfl) _).trans (rp_n _))) ?_
      refine GL_rd (wn_on rfl rfl rfl rfl) rfl (rd_bin rfl rfl rfl (bo_boolE (q := false) bo_neq (by rw [hn7 ((hG.may _ _).trans hmy)]; rfl))) ?_
      refine GL_rd (v := .bool _) (wn_on rfl rfl rfl rfl) rfl (rd_pickT rfl rfl rfl) ?_
      refine GL_rd (v := .bool _) (wn_none rfl) rfl (rd_pickF rfl rfl rfl) ?_
      refine GL_rd (v := .bool _) (wn_none rfl) rfl (rd_move rfl rfl) ?_
      refine GL_rd (v := .bool (mayR R L who rq.op)) (wn_on rfl rfl rfl rfl) rfl (rd_move rfl rfl) ?_
      refine GL_rd (wn_on rfl rfl rfl rfl) rfl (rd_not rfl rfl) ?_
      refine GL_rd (v := .bool _) (wn_on rfl rfl rfl rfl) rfl (rd_move rfl rfl) ?_
      refine GL_split (t := 75) (b := _) rfl ?_ ?_
      ·intro hb5; (try simp only [decide_eq_true_eq, decide_eq_false_iff_not, Bool.not_eq_true', Bool.not_eq_false', Bool.not_eq_eq_eq_not, Bool.not_true, Bool.not_false, Int.not_lt, Int.not_le] at hb5)
       exact absurd (hmy.symm.trans hb5) (by decide)
      ·intro hb5; (try simp only [decide_eq_true_eq, decide_eq_false_iff_not, Bool.not_eq_true', Bool.not_eq_false', Bool.not_eq_eq_eq_not, Bool.not_true, Bool.not_false, Int.not_lt, Int.not_le] at hb5)
       refine GL_pass (nw_off rfl rfl rfl rfl rfl) rfl ?_
       refine GL_pass (nw_off rfl rfl rfl rfl rfl) rfl ?_
       refine GL_pass (nw_off rfl rfl rfl rfl rfl) rfl ?_
       refine GL_rd (v := .bool _) (wn_on rfl rfl rfl rfl) rfl (rd_pickF rfl rfl rfl) ?_
       refine GL_rd (v := .bool _) (wn_none rfl) rfl (rd_pickF rfl rfl rfl) ?_
       refine GL_rd (v := .bool _) (wn_none rfl) rfl (rd_move rfl rfl) ?_
       refine GL_rd (v := .pointer (some ⟨gq, 0, none⟩)) (wn_on rfl rfl rfl rfl) rfl (rd_move rfl rfl) ?_
       refine GL_rd (wn_on rfl rfl rfl rfl) rfl (rd_load rfl rfl Try.underlying9 rfl ((cell_of_cells (hp.get 2 rfl) _).trans rfl)) ?_
       refine GL_rd (wn_on rfl rfl rfl rfl) rfl (rd_loadC rfl rfl Try.underlying69 rfl ts69 (hp.get 3 rfl) (rqC_len _)) ?_
       refine GL_call (wn_on rfl rfl rfl rfl) rfl rfl (gu_DoNil gq who rq _) rfl ?_
       rintro _ w ⟨rfl, hk⟩
       have hp := hp.comp hk
       refine GL_rd (wn_on rfl rfl rfl rfl) rfl (rd_fieldV rfl rfl Try.underlying71 rfl Try.underlying24 rfl rfl) ?_
       refine GL_rd (wn_on rfl rfl rfl rfl) rfl (rd_bin rfl rfl rfl (bo_boolE (q := false) bo_neq (by decide))) ?_
       refine GL_rd (v := .bool _) (wn_none rfl) rfl (rd_pickF rfl rfl rfl) ?_
       refine GL_nil ?_
       refine GW_false rfl ?_
       refine GW_skip ?_
       have hp := ((((((((((hp.front 9 rfl).front 4 rfl).front 4 rfl).front 11 rfl).front 11 rfl).front 11 rfl).front 11 rfl).front 11 rfl).front 11 rfl).take 9)
       exact ⟨_, slots9 rfl rfl rfl rfl rfl rfl rfl rfl rfl, hp⟩
     ·intro hb4; (try simp only [decide_eq_true_eq, decide_eq_false_iff_not, Bool.not_eq_true', Bool.not_eq_false', Bool.not_eq_eq_eq_not, Bool.not_true, Bool.not_false, Int.not_lt, Int.not_le] at hb4)
      have hmy : (mayR R L who rq.op) = false := hb4
      refine GL_pass (nw_off rfl rfl rfl rfl rfl) rfl ?_
      refine GL_pass (nw_off rfl rfl rfl rfl rfl) rfl ?_
      refine GL_pass (nw_off rfl rfl rfl rfl rfl) rfl ?_
      refine GL_rd (v := .bool _) (wn_on rfl rfl rfl rfl) rfl (rd_pickF rfl rfl rfl) ?_
      refine GL_rd (v := .bool _) (wn_none rfl) rfl (rd_pickF rfl rfl rfl) ?_
      refine GL_rd (v := .bool _) (wn_none rfl) rfl (rd_move rfl rfl) ?_
      refine GL_rd (v := .bool (mayR R L who rq.op)) (wn_on rfl rfl rfl rfl) rfl (rd_move rfl rfl) ?_
      refine GL_rd (wn_on rfl rfl rfl rfl) rfl (rd_not rfl rfl) ?_
      refine GL_rd (v := .bool _) (wn_on rfl rfl rfl rfl) rfl (rd_move rfl rfl) ?_
      refine GL_split (t := 75) (b := _) rfl ?_ ?_
      ·intro hb6; (try simp only [decide_eq_true_eq, decide_eq_false_iff_not, Bool.not_eq_true', Bool.not_eq_false', Bool.not_eq_eq_eq_not, Bool.not_true, Bool.not_false, Int.not_lt, Int.not_le] at hb6)
       refine GL_rd (wn_on rfl rfl rfl rfl) rfl (rd_field rfl rfl fa71_0 _ rfl) ?_
       refine GL_rd (wn_on rfl rfl rfl rfl) rfl (rd_load rfl rfl Try.underlying24 rfl ((cell_of_cells (hp.get 0 rfl) _).trans (rp_code _))) ?_
       refine GL_rd (wn_on rfl rfl rfl rfl) rfl (rd_bin rfl rfl rfl (bo_boolE (q := false) bo_neq (by rw [hc14 (by rw [hG.may, hmy]; decide)]; rfl))) ?_
       refine GL_rd (v := .bool _) (wn_on rfl rfl rfl rfl) rfl (rd_pickT rfl rfl rfl) ?_
       refine GL_rd (v := .bool _) (wn_none rfl) rfl (rd_pickF rfl rfl rfl) ?_
       refine GL_rd (v := .bool _) (wn_none rfl) rfl (rd_move rfl rfl) ?_
       refine GL_rd (v := .pointer (some ⟨gq, 0, none⟩)) (wn_on rfl rfl rfl rfl) rfl (rd_move rfl rfl) ?_
       refine GL_rd (wn_on rfl rfl rfl rfl) rfl (rd_load rfl rfl Try.underlying9 rfl ((cell_of_cells (hp.get 2 rfl) _).trans rfl)) ?_
       refine GL_rd (wn_on rfl rfl rfl rfl) rfl (rd_loadC rfl rfl Try.underlying69 rfl ts69 (hp.get 3 rfl) (rqC_len _)) ?_
       refine GL_call (wn_on rfl rfl rfl rfl) rfl rfl (gu_DoNil gq who rq _) rfl ?_
       rintro _ w ⟨rfl, hk⟩
       have hp := hp.comp hk
       refine GL_rd (wn_on rfl rfl rfl rfl) rfl (rd_fieldV rfl rfl Try.underlying71 rfl Try.underlying24 rfl rfl) ?_
       refine GL_rd (wn_on rfl rfl rfl rfl) rfl (rd_bin rfl rfl rfl (bo_boolE (q := false) bo_neq (by decide))) ?_
       refine GL_rd (v := .bool _) (wn_none rfl) rfl (rd_pickF rfl rfl rfl) ?_
       refine GL_nil ?_
       refine GW_false rfl ?_
       refine GW_skip ?_
       have hp := ((((((((((hp.front 9 rfl).front 4 rfl).front 4 rfl).front 11 rfl).front 11 rfl).front 11 rfl).front 11 rfl).front 11 rfl).front 11 rfl).take 9)
       exact ⟨_, slots9 rfl rfl rfl rfl rfl rfl rfl rfl rfl, hp⟩
      ·intro hb6; (try simp only [decide_eq_true_eq, decide_eq_false_iff_not, Bool.not_eq_true', Bool.not_eq_false', Bool.not_eq_eq_eq_not, Bool.not_true, Bool.not_false, Int.not_lt, Int.not_le] at hb6)
       exact absurd (hmy.symm.trans hb6) (by decide)
    ·rintro f w ⟨fz, rfl, hp⟩
     refine GW_seq ?_
     refine GW_region ?_
     refine GL_rd (v := .bool _) (wn_none rfl) rfl (rd_assign rfl rfl) ?_
     refine GL_nil ?_
     refine GW_seq ?_
     refine GW_region ?_
     refine GL_rd (wn_none rfl) rfl (rd_loadC rfl rfl Try.underlying51 rfl ts51 (hp.get 8 rfl) (by first | (rw [bys_length]; first | exact a32_len _) | rfl | simp [bys_length, *])) ?_
     refine GL_call (wn_none rfl) rfl rfl (ref_gPeople _ _ R L _ (Sl.row (hp.get 4 rfl)) (Sl.row (hp.get 5 rfl)) (by omega)) rfl ?_
     intro vp w hk
     have hp := hp.comp hk
     obtain ⟨Ap, cp2, rfl⟩ := row_shape (hp.get 0 rfl)
     refine GL_rd (v := .slice _ _ _) (wn_none rfl) rfl (rd_assign rfl rfl) ?_
     refine GL_nil ?_
     refine GW_seq ?_
     refine GW_seq ?_
     refine GW_region ?_
     refine GL_rd (v := .int _ _) (wn_none rfl) rfl (rd_assign rfl rfl) ?_
     refine GL_nil ?_
     refine GW_block ?_
     refine GW_loop ?_
     refine Lp_ind (α := Nat × Option Addr) (fun a_0 f_0 w' => match a_0 with | (i, Ap) => ∃ fz, f_0 = (upd (upd (upd (upd (upd (upd (upd fz 16 (.bool (bothN R L rq.op other (peoL L) i))) 17 (.slice Ap (peoL L).length cp2)) 18 (.int .i64 (i : Int))) 3 (.int .i64 other)) 6 (.pointer (some ⟨g2, 0, none⟩))) 9 (.pointer (some ⟨gq, 0, none⟩))) 10 (.pointer (some ⟨g3, 0, none⟩))) ∧ Hp w0 [] w' [cells gq 137 [.map (some rm), .map (some pm)], .blk rm (.map ⟨alE RA⟩ cr), .blk pm (.map ⟨alE PA⟩ cp), packL (rowsG 9 PA ct), .row 61 2 (.slice AR R.length cR) (R).length ((R).flatMap roC), .row 128 2 (.slice AL L.length cL) (L).length ((L).flatMap haC), cells g 9 [.string who], cells g2 69 (rqC rq), cells g3 51 [.slice AR R.length cR, .slice AL L.length cL], .row 9 1 (.slice Ap (peoL L).length cp2) ((peoL L)).length (((peoL L)).map Value.string)] ∧ (i ≤ (peoL L).length)) (fun a_0 => match a_0 with | (i, Ap) => (peoL L).length - i) ?_ (0, Ap) _ _ ?_
     ·rintro ⟨i, Ap⟩ f wz ⟨fz, rfl, hp, hi0⟩ ihL0
      refine Lp_round ?_
      refine GW_seq ?_
      refine GW_seq ?_
      refine GW_region ?_
      refine GL_rd (v := .int _ _) (wn_none rfl) rfl (rd_move rfl rfl) ?_
      refine GL_rd (v := .slice _ _ _) (wn_none rfl) rfl (rd_move rfl rfl) ?_
      refine GL_rd (wn_none rfl) rfl (rd_len rfl rfl Try.underlying62) ?_
      refine GL_rd (wn_none rfl) rfl (rd_bin rfl rfl rfl bo_lss) ?_
      refine GL_nil ?_
      refine GW_cond rfl (fun hb7 => ?_) (fun hb7 => ?_)
      ·(try simp only [decide_eq_true_eq, decide_eq_false_iff_not, Bool.not_eq_true', Bool.not_eq_false', Bool.not_eq_eq_eq_not, Bool.not_true, Bool.not_false, Int.not_lt, Int.not_le] at hb7)
       obtain ⟨gp, bp, rfl⟩ := (Sl.row (hp.get 9 rfl)).addr (by rw [List.length_map]; omega)
       refine GW_skip ?_
       refine GW_seq ?_
       refine GW_block ?_
       refine GW_drawnK 21 (.one 0 true (.one 1 true (.one 2 true (.one 3 true (.one 4 true (.one 5 true (.one 6 true (.one 7 true (.one 8 true (.one 9 false (.one 10 true (.one 11 true (.one 12 true (.one 13 true (.one 14 true (.one 15 true (.one 16 true (.one 17 false (.one 18 true (.one 19 true (.one 20 true .nil))))))))))))))))))))) mixed (by kernel_rfl) hp (fun _ h => h) fun w hp => ?_
       have hpS := hp
       refine GO_rdT (v := .bool _) rfl (wn_none rfl) rfl (fun w => (rd_move rfl rfl)) ?_
       refine GO_rdT (v := .bool _) rfl (wn_none rfl) rfl (fun w => (rd_move rfl rfl)) ?_
       refine GO_split (t := 98) (b := _) rfl ?_ ?_
       ·intro hb8; (try simp only [decide_eq_true_eq, decide_eq_false_iff_not, Bool.not_eq_true', Bool.not_eq_false', Bool.not_eq_eq_eq_not, Bool.not_true, Bool.not_false, Int.not_lt, Int.not_le] at hb8)
        have hbo : (bothN R L rq.op other (peoL L) i) = true := hb8
        refine GO_pass rfl (nw_off rfl rfl rfl rfl rfl) rfl ?_
        refine GO_pass rfl (nw_off rfl rfl rfl rfl rfl) rfl ?_
        refine GO_pass rfl (nw_off rfl rfl rfl rfl rfl) rfl ?_
        refine GO_pass rfl (nw_off rfl rfl rfl rfl rfl) rfl ?_
        refine GO_pass rfl (nw_off rfl rfl rfl rfl rfl) rfl ?_
        refine GO_pass rfl (nw_off rfl rfl rfl rfl rfl) rfl ?_
        refine GO_pass rfl (nw_off rfl rfl rfl rfl rfl) rfl ?_
        refine GO_of_GL rfl ?_
        refine GL_pass (nw_off rfl rfl rfl rfl rfl) rfl (GL_nil ⟨fun _ => hpS, ?_⟩)
        refine GO_pass rfl (nw_off rfl rfl rfl rfl rfl) rfl ?_
        refine GO_pass rfl (nw_undef rfl rfl rfl rfl) rfl ?_
        refine GO_pass rfl (nw_undef rfl rfl rfl rfl) rfl ?_
        refine GO_pass rfl (nw_undef rfl rfl rfl rfl) rfl ?_
        refine GO_pass rfl (nw_undef rfl rfl rfl rfl) rfl ?_
        refine GO_pass rfl (nw_undef rfl rfl rfl rfl) rfl ?_
        refine GO_pass rfl (nw_undef rfl rfl rfl rfl) rfl ?_
        refine GO_of_GL rfl ?_
        refine GL_pass (nw_undef rfl rfl rfl rfl) rfl (GL_nil ⟨fun _ => hpS, ?_⟩)
        refine GO_pass rfl (nw_off rfl rfl rfl rfl rfl) rfl ?_
        refine GO_rdT (v := .bool _) rfl (wn_none rfl) rfl (fun w => (rd_pickT rfl rfl rfl)) ?_
        refine GO_rdT (v := .bool _) rfl (wn_none rfl) rfl (fun w => (rd_assign rfl rfl)) ?_
        refine GO_nil ?_
        refine GW_region ?_
        refine GL_rd (v := .int _ _) (wn_none rfl) rfl (rd_move rfl rfl) ?_
        refine GL_rd (wn_none rfl) rfl (rd_bin rfl rfl rfl (bo_add64 (by omega))) ?_
        refine GL_rd (v := .int _ _) (wn_none rfl) rfl (rd_assign rfl rfl) ?_
        refine GL_nil ?_
        have hp := (((((((((((hp.front 9 rfl).front 9 rfl).front 9 rfl).front 9 rfl).front 9 rfl).front 9 rfl).front 9 rfl).front 9 rfl).front 9 rfl).front 9 rfl).take 10)
        exact ihL0 (i + 1, _) _ _ (by simp only []; omega) ⟨_, slots7 (by first | (rw [bothN_succ (by omega), hbo, hm1]; rfl) | (rw [bothN_succ (by omega), hbo]; rfl)) rfl rfl rfl rfl rfl rfl, hp, by omega⟩
       ·intro hb8; (try simp only [decide_eq_true_eq, decide_eq_false_iff_not, Bool.not_eq_true', Bool.not_eq_false', Bool.not_eq_eq_eq_not, Bool.not_true, Bool.not_false, Int.not_lt, Int.not_le] at hb8)
        have hbo : (bothN R L rq.op other (peoL L) i) = false := hb8
        refine GO_rd rfl rfl (wn_on rfl rfl rfl rfl) rfl hpS (fun w hp => (rd_loadC rfl rfl Try.underlying51 rfl ts51 (hp.get 8 rfl) (by first | (rw [bys_length]; first | exact a32_len _) | rfl | simp [bys_length, *]))) ?_
        refine GO_rdT (v := .slice _ _ _) rfl (wn_on rfl rfl rfl rfl) rfl (fun w => (rd_move rfl rfl)) ?_
        refine GO_rdT (v := .int _ _) rfl (wn_on rfl rfl rfl rfl) rfl (fun w => (rd_move rfl rfl)) ?_
        refine GO_rdT rfl (wn_on rfl rfl rfl rfl) rfl (fun w => (rd_indexS (j := i) rfl rfl rfl Try.underlying62 ts9 rfl (by omega) _ rfl)) ?_
        refine GO_rd rfl rfl (wn_on rfl rfl rfl rfl) rfl hpS (fun w hp => (rd_load rfl rfl Try.underlying9 rfl ((Sl.row (hp.get 9 rfl)).get _ _ (strAt_cell (l := (peoL L)) (i := i) (by omega))))) ?_
        refine GO_rdT rfl (wn_on rfl rfl rfl rfl) rfl (fun w => (rd_field rfl rfl fa69_0 _ rfl)) ?_
        refine GO_rd rfl rfl (wn_on rfl rfl rfl rfl) rfl hpS (fun w hp => (rd_load rfl rfl Try.underlying3 rfl ((cell_of_cells (hp.get 7 rfl) _).trans (rq_op _)))) ?_
        refine GO_of_GL rfl ?_
        refine GL_call (wn_on rfl rfl rfl rfl) rfl rfl (ref_gMay _ _ R L (strAt (peoL L) i) rq.op _ (Sl.row (hp.get 4 rfl)) (Sl.row (hp.get 5 rfl)) (hRo _ fun x hx => (hlo x hx).keep hp.mod) hG.inR) rfl ?_
        rintro _ w ⟨rfl, hk⟩
        have hp := hp.comp hk
        have hpS2 := hp
        refine GL_nil ⟨fun _ => hpS2, ?_⟩
        refine GO_rdT (v := .bool (mayR R L (strAt (peoL L) i) rq.op)) rfl (wn_on rfl rfl rfl rfl) rfl (fun w => (rd_move rfl rfl)) ?_
        refine GO_split (t := 107) (b := _) rfl ?_ ?_
        ·intro hb9; (try simp only [decide_eq_true_eq, decide_eq_false_iff_not, Bool.not_eq_true', Bool.not_eq_false', Bool.not_eq_eq_eq_not, Bool.not_true, Bool.not_false, Int.not_lt, Int.not_le] at hb9)
         have hm1 : mayR R L (strAt (peoL L) i) rq.op = true := hb9
         refine GO_rd rfl rfl (wn_on rfl rfl rfl rfl) rfl hpS2 (fun w hp => (rd_loadC rfl rfl Try.underlying51 rfl ts51 (hp.get 8 rfl) (by first | (rw [bys_length]; first | exact a32_len _) | rfl | simp [bys_length, *]))) ?_
         refine GO_rdT (v := .slice _ _ _) rfl (wn_on rfl rfl rfl rfl) rfl (fun w => (rd_move rfl rfl)) ?_
         refine GO_rdT (v := .int _ _) rfl (wn_on rfl rfl rfl rfl) rfl (fun w => (rd_move rfl rfl)) ?_
         refine GO_rdT rfl (wn_on rfl rfl rfl rfl) rfl (fun w => (rd_indexS (j := i) rfl rfl rfl Try.underlying62 ts9 rfl (by omega) _ rfl)) ?_
         refine GO_rd rfl rfl (wn_on rfl rfl rfl rfl) rfl hpS2 (fun w hp => (rd_load rfl rfl Try.underlying9 rfl ((Sl.row (hp.get 9 rfl)).get _ _ (strAt_cell (l := (peoL L)) (i := i) (by omega))))) ?_
         refine GO_rdT (v := .int _ _) rfl (wn_on rfl rfl rfl rfl) rfl (fun w => (rd_move rfl rfl)) ?_
         refine GO_of_GL rfl ?_
         refine GL_call (wn_on rfl rfl rfl rfl) rfl rfl (ref_gMay _ _ R L (strAt (peoL L) i) other _ (Sl.row (hp.get 4 rfl)) (Sl.row (hp.get 5 rfl)) (hRo _ fun x hx => (hlo x hx).keep hp.mod) hG.inR) rfl ?_
         rintro _ w ⟨rfl, hk⟩
         have hp := hp.comp hk
         have hpS3 := hp
         refine GL_nil ⟨fun _ => hpS3, ?_⟩
         refine GO_rdT (v := .bool (mayR R L (strAt (peoL L) i) other)) rfl (wn_on rfl rfl rfl rfl) rfl (fun w => (rd_pickT rfl rfl rfl)) ?_
         refine GO_rdT (v := .bool (mayR R L (strAt (peoL L) i) other)) rfl (wn_none rfl) rfl (fun w => (rd_pickF rfl rfl rfl)) ?_
         refine GO_rdT (v := .bool (mayR R L (strAt (peoL L) i) other)) rfl (wn_none rfl) rfl (fun w => (rd_assign rfl rfl)) ?_
         refine GO_nil ?_
         refine GW_region ?_
         refine GL_rd (v := .int _ _) (wn_none rfl) rfl (rd_move rfl rfl) ?_
         refine GL_rd (wn_none rfl) rfl (rd_bin rfl rfl rfl (bo_add64 (by omega))) ?_
         refine GL_rd (v := .int _ _) (wn_none rfl) rfl (rd_assign rfl rfl) ?_
         refine GL_nil ?_
         have hp := (((((((((((hp.front 9 rfl).front 9 rfl).front 9 rfl).front 9 rfl).front 9 rfl).front 9 rfl).front 9 rfl).front 9 rfl).front 9 rfl).front 9 rfl).take 10)
         exact ihL0 (i + 1, _) _ _ (by simp only []; omega) ⟨_, slots7 (by first | (rw [bothN_succ (by omega), hbo, hm1]; rfl) | (rw [bothN_succ (by omega), hbo]; rfl)) rfl rfl rfl rfl rfl rfl, hp, by omega⟩
        ·intro hb9; (try simp only [decide_eq_true_eq, decide_eq_false_iff_not, Bool.not_eq_true', Bool.not_eq_false', Bool.not_eq_eq_eq_not, Bool.not_true, Bool.not_false, Int.not_lt, Int.not_le] at hb9)
         have hm1 : mayR R L (strAt (peoL L) i) rq.op = false := hb9
         refine GO_pass rfl (nw_off rfl rfl rfl rfl rfl) rfl ?_
         refine GO_pass rfl (nw_off rfl rfl rfl rfl rfl) rfl ?_
         refine GO_pass rfl (nw_off rfl rfl rfl rfl rfl) rfl ?_
         refine GO_pass rfl (nw_off rfl rfl rfl rfl rfl) rfl ?_
         refine GO_pass rfl (nw_off rfl rfl rfl rfl rfl) rfl ?_
         refine GO_pass rfl (nw_off rfl rfl rfl rfl rfl) rfl ?_
         refine GO_of_GL rfl ?_
         refine GL_pass (nw_off rfl rfl rfl rfl rfl) rfl (GL_nil ⟨fun _ => hpS2, ?_⟩)
         refine GO_rdT (v := .bool _) rfl (wn_on rfl rfl rfl rfl) rfl (fun w => (rd_pickF rfl rfl rfl)) ?_
         refine GO_rdT (v := .bool _) rfl (wn_none rfl) rfl (fun w => (rd_pickF rfl rfl rfl)) ?_
         refine GO_rdT (v := .bool _) rfl (wn_none rfl) rfl (fun w => (rd_assign rfl rfl)) ?_
         refine GO_nil ?_
         refine GW_region ?_
         refine GL_rd (v := .int _ _) (wn_none rfl) rfl (rd_move rfl rfl) ?_
         refine GL_rd (wn_none rfl) rfl (rd_bin rfl rfl rfl (bo_add64 (by omega))) ?_
         refine GL_rd (v := .int _ _) (wn_none rfl) rfl (rd_assign rfl rfl) ?_
         refine GL_nil ?_
         have hp := (((((((((((hp.front 9 rfl).front 9 rfl).front 9 rfl).front 9 rfl).front 9 rfl).front 9 rfl).front 9 rfl).front 9 rfl).front 9 rfl).front 9 rfl).take 10)
         exact ihL0 (i + 1, _) _ _ (by simp only []; omega) ⟨_, slots7 (by first | (rw [bothN_succ (by omega), hbo, hm1]; rfl) | (rw [bothN_succ (by omega), hbo]; rfl)) rfl rfl rfl rfl rfl rfl, hp, by omega⟩
      ·(try simp only [decide_eq_true_eq, decide_eq_false_iff_not, Bool.not_eq_true', Bool.not_eq_false', Bool.not_eq_eq_eq_not, Bool.not_true, Bool.not_false, Int.not_lt, Int.not_le] at hb7)
       refine GW_exit ?_
       refine GW_seq ?_
       refine GW_region ?_
       refine GL_rd (v := .pointer (some ⟨gq, 0, none⟩)) (wn_none rfl) rfl (rd_move rfl rfl) ?_
       refine GL_rd (wn_none rfl) rfl (rd_field rfl rfl fa69_0 _ rfl) ?_
       refine GL_rd (wn_none rfl) rfl (rd_load rfl rfl Try.underlying3 rfl ((cell_of_cells (hp.get 7 rfl) _).trans (rq_op _))) ?_
       refine GL_rd (v := .int _ _) (wn_none rfl) rfl (rd_move rfl rfl) ?_
       refine GL_call (wn_none rfl) rfl rfl (gu_Apart gq rm pm cr cp RA PA mk ct rq.op other _ ⟨hp.get 0 rfl, hp.get 1 rfl, hp.get 2 rfl, hp.get 3 rfl⟩ hO) rfl ?_
       rintro _ w ⟨rfl, hk⟩
       have hp := hp.comp hk
       refine GL_rd (v := .bool _) (wn_none rfl) rfl (rd_move rfl rfl) ?_
       refine GL_rd (wn_none rfl) rfl (rd_not rfl rfl) ?_
       refine GL_rd (wn_none rfl) rfl (rd_bin rfl rfl rfl (bo_boolE (q := true) (bo_beql Try.underlying4) (by rw [hG.apart, bothN_all _ (by omega)]; simp))) ?_
       refine GL_rd (v := .bool _) (wn_none rfl) rfl (rd_move rfl rfl) ?_
       refine GL_call (wn_on rfl rfl rfl rfl) rfl rfl (law_gworks _) rfl ?_
       rintro _ w ⟨rfl, hk⟩
       have hp := hp.comp hk
       refine GL_rd (v := .bool _) (wn_none rfl) rfl (rd_pickT rfl rfl rfl) ?_
       refine GL_rd (v := .bool _) (wn_none rfl) rfl (rd_assign rfl rfl) ?_
       refine GL_nil ?_
       refine GW_ret ?_
       exact ⟨_, res1 Try.results6 (rv_tmp (v := .bool _) rfl rfl), rfl, hp.mods⟩
     ·have hp := (((((((((((hp.front 0 rfl).front 9 rfl).front 9 rfl).front 9 rfl).front 9 rfl).front 9 rfl).front 9 rfl).front 9 rfl).front 9 rfl).front 9 rfl).take 10)
      refine ⟨_, slots7 rfl rfl rfl rfl rfl rfl rfl, hp, Nat.zero_le _⟩
end Go.Proofs.Ytpagpmioopaciaa
