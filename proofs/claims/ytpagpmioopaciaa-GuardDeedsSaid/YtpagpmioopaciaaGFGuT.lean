/- Walks of functions of the program. -/
import Derived.Test.YtpagpmioopaciaaGFGuR
import Derived.Test.YtpagpmioopaciaaGGuaQ
set_option linter.unusedVariables false
set_option linter.unusedSimpArgs false
namespace Go.Proofs.Ytpagpmioopaciaa
open Go.Mo Go.RowKit
set_option maxHeartbeats 1000000 in
theorem ref_gDefine (rv lv : Value) (R : List RO) (L : List HA) (nm : ByteArray) (ov : Value) (ops : List Int) (w0 : World) (hR : Sl w0 rv 2 R.length (R.flatMap roC)) (hL : Sl w0 lv 2 L.length (L.flatMap haC)) (hs : riseR R) (hRo : okRo w0 R) (hov : Sl w0 ov 1 ops.length (ops.map (Value.int .i64))) (hz : nm.size ≤ 65000) (hRb : R.length ≤ 65000) : Does Try.prog 56 #[.agg ⟨[rv, lv]⟩, .agg ⟨roC (nm, ov, ops)⟩] w0 fun v w' => ∃ rv', v = .tuple #[.agg ⟨[rv', lv]⟩, .int .i64 (defK R nm)] ∧ Renewed w0 w' (.row 61 2 rv (R).length ((R).flatMap roC)) (.row 61 2 rv' ((defX R (nm, ov, ops))).length (((defX R (nm, ov, ops))).flatMap roC)) := by
 obtain ⟨A, c, rfl⟩ := sl_shape hR
 obtain ⟨B, d, rfl⟩ := sl_shape hL
 have hRle := hR.le
 have hLle := hL.le
 refine does_of (l := [.agg ⟨[.slice A R.length c, .slice B L.length d]⟩, .agg ⟨roC (nm, ov, ops)⟩]) Try.func56 (by kernel_rfl) rfl Try.ntmps56 rfl rfl (by kernel_rfl) ?_
 have hp := Hp.refl w0 []
 refine GW_seq ?_
 refine GW_region ?_
 refine GL_box (wn_none rfl) rfl rfl rfl rfl hp ?_
 intro g w hp
 refine GL_box (wn_none rfl) rfl rfl rfl rfl hp ?_
 intro g2 w hp
 refine GL_alloc (wn_none rfl) rfl rfl tz51 rfl hp ?_
 intro g3 w hp
 refine GL_rd (v := .int _ _) (wn_none rfl) rfl (rd_assign rfl rfl) ?_
 refine GL_nil ?_
 refine GW_seq ?_
 refine GW_seq ?_
 refine GW_region ?_
 refine GL_rd (wn_none rfl) rfl (rd_field rfl rfl fa61_0 _ rfl) ?_
 refine GL_rd (wn_none rfl) rfl (rd_load rfl rfl Try.underlying9 rfl ((cell_of_cells (hp.get 1 rfl) _).trans (ro_name _))) ?_
 refine GL_call (wn_none rfl) rfl rfl (ref_clName nm _ (by omega)) rfl ?_
 rintro _ w ⟨rfl, hk⟩
 have hp := hp.comp hk
 refine GL_rd (v := .int .i64 (nameC nm)) (wn_none rfl) rfl (rd_assign rfl rfl) ?_
 refine GL_nil ?_
 refine GW_seq ?_
 refine GW_region ?_
 refine GL_rd (v := .int .i64 (nameC nm)) (wn_none rfl) rfl (rd_move rfl rfl) ?_
 refine GL_rd (wn_none rfl) rfl (rd_bin rfl rfl rfl bo_neq) ?_
 refine GL_nil ?_
 refine GW_cond rfl (fun hb => ?_) (fun hb => ?_)
 ·(try simp only [decide_eq_true_eq, decide_eq_false_iff_not, Bool.not_eq_true', Bool.not_eq_false', Bool.not_eq_eq_eq_not, Bool.not_true, Bool.not_false, Int.not_lt, Int.not_le] at hb)
  have ed : defK R nm = nameC nm := if_neg hb
  refine GW_seq ?_
  refine GW_region ?_
  refine GL_rd (wn_none rfl) rfl (rd_loadC rfl rfl Try.underlying51 rfl ts51 (hp.get 2 rfl) (by first | (rw [bys_length]; first | exact a32_len _) | rfl | simp [bys_length, *])) ?_
  refine GL_rd (v := .int .i64 (nameC nm)) (wn_none rfl) rfl (rd_move rfl rfl) ?_
  refine GL_store (i := 0) (wn_none rfl) rfl rfl rfl rfl ts51 rfl rfl (oneC rfl (oneC rfl one0)) hp rfl (by first | exact Nat.le_of_ble_eq_true rfl | simp [bys_length, *]) rfl ?_
  intro w hp
  refine GL_rd (v := .int .i64 (nameC nm)) (wn_none rfl) rfl (rd_assign rfl rfl) ?_
  refine GL_nil ?_
  refine GW_ret ?_
  refine ⟨_, res2 Try.results56 (rv_cell rfl rfl Try.underlying51 rfl ts51 rfl (hp.get 0 rfl)) (rv_tmp (v := .int .i64 (nameC nm)) rfl rfl), .slice A R.length c, by rw [ed]; first | done | rfl, .inl ⟨?_, hp.mods⟩⟩
  rw [defX, ed, if_neg (by have := hb; omega)]
 ·(try simp only [decide_eq_true_eq, decide_eq_false_iff_not, Bool.not_eq_true', Bool.not_eq_false', Bool.not_eq_eq_eq_not, Bool.not_true, Bool.not_false, Int.not_lt, Int.not_le] at hb)
  have hn0 := hb
  refine GW_skip ?_
  refine GW_seq ?_
  refine GW_region ?_
  refine GL_rd (wn_none rfl) rfl (rd_loadC rfl rfl Try.underlying51 rfl ts51 (hp.get 2 rfl) (by first | (rw [bys_length]; first | exact a32_len _) | rfl | simp [bys_length, *])) ?_
  refine GL_rd (wn_none rfl) rfl (rd_field rfl rfl fa61_0 _ rfl) ?_
  refine GL_rd (wn_none rfl) rfl (rd_load rfl rfl Try.underlying9 rfl ((cell_of_cells (hp.get 1 rfl) _).trans (ro_name _))) ?_
  refine GL_call (wn_none rfl) rfl rfl (ref_gFind _ _ R L nm _ (hR.keep hp.mod) (hL.keep hp.mod)) rfl ?_
  rintro _ w ⟨rfl, hk⟩
  have hp := hp.comp hk
  refine GL_rd (v := .int .i64 (roF R nm)) (wn_none rfl) rfl (rd_assign rfl rfl) ?_
  refine GL_nil ?_
  refine GW_cut (fun f_0 w' => ∃ (fz : _), f_0 = (upd (upd (upd (upd fz 2 (.pointer (some ⟨g, 0, none⟩))) 3 (.pointer (some ⟨g2, 0, none⟩))) 4 (.pointer (some ⟨g3, 0, none⟩))) 7 (.int .i64 (roF R nm))) ∧ Hp w0 [] w' [cells g 51 [.slice A R.length c, .slice B L.length d], cells g2 61 (roC (nm, ov, ops)), cells g3 51 [.slice none 0 0, .slice none 0 0]] ∧ (defK R nm = 0)) ?_ ?_
  ·skip
   refine GW_seq ?_
   refine GW_region ?_
   refine GL_rd (v := .int .i64 (roF R nm)) (wn_none rfl) rfl (rd_move rfl rfl) ?_
   refine GL_rd (wn_none rfl) rfl (rd_bin rfl rfl rfl bo_lss) ?_
   refine GL_rd (v := .bool _) (wn_none rfl) rfl (rd_move rfl rfl) ?_
   refine GL_split (t := 24) (b := _) rfl ?_ ?_
   ·intro hb2; (try simp only [decide_eq_true_eq, decide_eq_false_iff_not, Bool.not_eq_true', Bool.not_eq_false', Bool.not_eq_eq_eq_not, Bool.not_true, Bool.not_false, Int.not_lt, Int.not_le] at hb2)
    have h1 := hb2
    refine GL_rd (wn_on rfl rfl rfl rfl) rfl (rd_field rfl rfl fa51_0 _ rfl) ?_
    refine GL_rd (v := .slice _ _ _) (wn_on rfl rfl rfl rfl) rfl (rd_load rfl rfl Try.underlying48 rfl ((cell_of_cells (hp.get 2 rfl) _).trans rfl)) ?_
    refine GL_rd (wn_on rfl rfl rfl rfl) rfl (rd_len rfl rfl Try.underlying48) ?_
    refine GL_rd (wn_on rfl rfl rfl rfl) rfl (rd_bin rfl rfl rfl bo_geq) ?_
    refine GL_rd (v := .bool _) (wn_none rfl) rfl (rd_pickT rfl rfl rfl) ?_
    refine GL_nil ?_
    refine GW_cond rfl (fun hb3 => ?_) (fun hb3 => ?_)
    ·(try simp only [decide_eq_true_eq, decide_eq_false_iff_not, Bool.not_eq_true', Bool.not_eq_false', Bool.not_eq_eq_eq_not, Bool.not_true, Bool.not_false, Int.not_lt, Int.not_le] at hb3)
     have ed : defK R nm = 7 := by rw [defK, if_pos hn0, if_pos ⟨h1, by omega⟩]
     refine GW_seq ?_
     refine GW_region ?_
     refine GL_rd (wn_none rfl) rfl (rd_loadC rfl rfl Try.underlying51 rfl ts51 (hp.get 2 rfl) (by first | (rw [bys_length]; first | exact a32_len _) | rfl | simp [bys_length, *])) ?_
     refine GL_store (i := 0) (wn_none rfl) rfl rfl rfl rfl ts51 rfl rfl (oneC rfl (oneC rfl one0)) hp rfl (by first | exact Nat.le_of_ble_eq_true rfl | simp [bys_length, *]) rfl ?_
     intro w hp
     refine GL_rd (v := .int _ _) (wn_none rfl) rfl (rd_assign rfl rfl) ?_
     refine GL_nil ?_
     refine GW_ret ?_
     refine ⟨_, res2 Try.results56 (rv_cell rfl rfl Try.underlying51 rfl ts51 rfl (hp.get 0 rfl)) (rv_tmp (v := .int _ _) rfl rfl), .slice A R.length c, by rw [ed]; first | done | rfl, .inl ⟨?_, hp.mods⟩⟩
     rw [defX, ed, if_neg (by decide)]
    ·(try simp only [decide_eq_true_eq, decide_eq_false_iff_not, Bool.not_eq_true', Bool.not_eq_false', Bool.not_eq_eq_eq_not, Bool.not_true, Bool.not_false, Int.not_lt, Int.not_le] at hb3)
     refine GW_skip ?_
     have hp := ((((hp.front 0 rfl).front 1 rfl).front 2 rfl).take 3)
     exact ⟨_, slots4 rfl rfl rfl rfl, hp, by rw [defK, if_pos hn0, if_neg (fun q => by omega)]⟩
   ·intro hb2; (try simp only [decide_eq_true_eq, decide_eq_false_iff_not, Bool.not_eq_true', Bool.not_eq_false', Bool.not_eq_eq_eq_not, Bool.not_true, Bool.not_false, Int.not_lt, Int.not_le] at hb2)
    have h1 := hb2
    refine GL_pass (nw_off rfl rfl rfl rfl rfl) rfl ?_
    refine GL_pass (nw_off rfl rfl rfl rfl rfl) rfl ?_
    refine GL_pass (nw_off rfl rfl rfl rfl rfl) rfl ?_
    refine GL_pass (nw_off rfl rfl rfl rfl rfl) rfl ?_
    refine GL_rd (v := .bool _) (wn_none rfl) rfl (rd_pickF rfl rfl rfl) ?_
    refine GL_nil ?_
    refine GW_false rfl ?_
    refine GW_skip ?_
    have hp := ((((hp.front 0 rfl).front 1 rfl).front 2 rfl).take 3)
    exact ⟨_, slots4 rfl rfl rfl rfl, hp, by rw [defK, if_pos hn0, if_neg (fun q => by omega)]⟩
  ·rintro f w ⟨fz, rfl, hp, ed⟩
   refine GW_seq ?_
   refine GW_region ?_
   refine GL_rd (wn_none rfl) rfl (rd_field rfl rfl fa51_1 _ rfl) ?_
   refine GL_rd (v := .slice _ _ _) (wn_none rfl) rfl (rd_load rfl rfl Try.underlying49 rfl ((cell_of_cells (hp.get 0 rfl) _).trans rfl)) ?_
   refine GL_rd (wn_none rfl) rfl (rd_buildS (L := [.slice none 0 0, .slice B L.length d]) rfl tz51 pl51 (by kernel_rfl)) ?_
   refine GL_alloc (wn_none rfl) rfl rfl tz51 rfl hp ?_
   intro g4 w hp
   refine GL_store (i := 0) (wn_none rfl) rfl rfl rfl rfl ts51 rfl rfl (oneC rfl (oneC rfl one0)) hp rfl (by first | exact Nat.le_of_ble_eq_true rfl | simp [bys_length, *]) rfl ?_
   intro w hp
   refine GL_nil ?_
   refine GW_seq ?_
   refine GW_region ?_
   refine GL_rd (v := .bool _) (wn_none rfl) rfl (rd_assign rfl rfl) ?_
   refine GL_nil ?_
   refine GW_seq ?_
   refine GW_seq ?_
   refine GW_region ?_
   refine GL_rd (v := .int _ _) (wn_none rfl) rfl (rd_assign rfl rfl) ?_
   refine GL_nil ?_
   refine GW_block ?_
   refine GW_loop ?_
   refine Lp_ind (α := Nat × List RO × Bool × Value × Option Addr) (fun a_0 f_0 w' => match a_0 with | (i, o, p, y, A) => ∃ fz, f_0 = (upd (upd (upd (upd (upd (upd (upd fz 9 (.bool p)) 10 (.int .i64 (i : Int))) 2 (.pointer (some ⟨g, 0, none⟩))) 3 (.pointer (some ⟨g2, 0, none⟩))) 4 (.pointer (some ⟨g3, 0, none⟩))) 7 (.int .i64 (roF R nm))) 8 (.pointer (some ⟨g4, 0, none⟩))) ∧ Hp w0 [] w' [cells g 51 [.slice A R.length c, .slice B L.length d], cells g2 61 (roC (nm, ov, ops)), cells g3 51 [.slice none 0 0, .slice none 0 0], cells g4 51 [y, .slice B L.length d], .row 61 2 y (o).length ((o).flatMap roC)] ∧ (i ≤ R.length) ∧ (defS R (nm, ov, ops) (roF R nm) i = (o, p)) ∧ (Sl w0 (.slice A R.length c) 2 R.length (R.flatMap roC))) (fun a_0 => match a_0 with | (i, o, p, y, A) => R.length - i) ?_ (0, [], false, .slice none 0 0, A) _ _ ?_
   ·rintro ⟨i, o, p, y, A⟩ f wz ⟨fz, rfl, hp, hi0, hst, hR⟩ ihL0
    refine Lp_round ?_
    refine GW_seq ?_
    refine GW_seq ?_
    refine GW_region ?_
    refine GL_rd (v := .int _ _) (wn_none rfl) rfl (rd_move rfl rfl) ?_
    refine GL_rd (wn_none rfl) rfl (rd_field rfl rfl fa51_0 _ rfl) ?_
    refine GL_rd (v := .slice _ _ _) (wn_none rfl) rfl (rd_load rfl rfl Try.underlying48 rfl ((cell_of_cells (hp.get 0 rfl) _).trans rfl)) ?_
    refine GL_rd (wn_none rfl) rfl (rd_len rfl rfl Try.underlying48) ?_
    refine GL_rd (wn_none rfl) rfl (rd_bin rfl rfl rfl bo_lss) ?_
    refine GL_nil ?_
    refine GW_cond rfl (fun hb4 => ?_) (fun hb4 => ?_)
    ·(try simp only [decide_eq_true_eq, decide_eq_false_iff_not, Bool.not_eq_true', Bool.not_eq_false', Bool.not_eq_eq_eq_not, Bool.not_true, Bool.not_false, Int.not_lt, Int.not_le] at hb4)
     obtain ⟨gA, bA, rfl⟩ := hR.addr (by rw [flat_length roC_len]; omega)
     have hol := defS_len R (nm, ov, ops) (roF R nm) i
     rw [hst] at hol
     replace hol : o.length ≤ 2 * i := hol
     refine GW_skip ?_
     refine GW_seq ?_
     refine GW_block ?_
     refine GW_seq ?_
     refine GW_seq ?_
     refine GW_drawnK 13 (.one 0 true (.one 1 true (.one 2 true (.one 3 true (.one 4 true (.one 5 true (.one 6 true (.one 7 true (.one 8 true (.one 9 true (.one 10 true (.one 11 true (.one 12 true .nil))))))))))))) mixed (by kernel_rfl) hp (fun _ h => (h.sub (.cons_cons _ (.cons_cons _ (.cons _ (.cons _ (.cons _ .slnil))))))) fun w hp => ?_
     have hpS := (hp.sub (.cons_cons _ (.cons_cons _ (.cons _ (.cons _ (.cons _ .slnil))))))
     refine GO_rdT (v := .bool _) rfl (wn_none rfl) rfl (fun w => (rd_move rfl rfl)) ?_
     refine GO_rd rfl rfl (wn_none rfl) rfl hpS (fun w hp => (rd_not rfl rfl)) ?_
     refine GO_rdT (v := .bool _) rfl (wn_none rfl) rfl (fun w => (rd_move rfl rfl)) ?_
     refine GO_split (t := 43) (b := _) rfl ?_ ?_
     ·intro hb5; (try simp only [decide_eq_true_eq, decide_eq_false_iff_not, Bool.not_eq_true', Bool.not_eq_false', Bool.not_eq_eq_eq_not, Bool.not_true, Bool.not_false, Int.not_lt, Int.not_le] at hb5)
      obtain rfl : p = false := hb5
      refine GO_rdT rfl (wn_on rfl rfl rfl rfl) rfl (fun w => (rd_field rfl rfl fa51_0 _ rfl)) ?_
      refine GO_rd (v := .slice _ _ _) rfl rfl (wn_on rfl rfl rfl rfl) rfl hpS (fun w hp => (rd_load rfl rfl Try.underlying48 rfl ((cell_of_cells (hp.get 0 rfl) _).trans rfl))) ?_
      refine GO_rdT (v := .int _ _) rfl (wn_on rfl rfl rfl rfl) rfl (fun w => (rd_move rfl rfl)) ?_
      refine GO_rdT rfl (wn_on rfl rfl rfl rfl) rfl (fun w => (rd_indexS (j := i) rfl rfl rfl Try.underlying48 ts61 rfl (by omega) _ rfl)) ?_
      refine GO_rdT rfl (wn_on rfl rfl rfl rfl) rfl (fun w => (rd_field rfl rfl fa61_0 _ rfl)) ?_
      refine GO_rd rfl rfl (wn_on rfl rfl rfl rfl) rfl hpS (fun w hp => (rd_load rfl rfl Try.underlying9 rfl (Sl.roE (hR.keep hp.mod) i (by first | omega | assumption | exact Nat.lt_succ_self _) (ro_name _)))) ?_
      refine GO_rdT rfl (wn_on rfl rfl rfl rfl) rfl (fun w => (rd_field rfl rfl fa61_0 _ rfl)) ?_
      refine GO_rd rfl rfl (wn_on rfl rfl rfl rfl) rfl hpS (fun w hp => (rd_load rfl rfl Try.underlying9 rfl ((cell_of_cells (hp.get 1 rfl) _).trans (ro_name _)))) ?_
      refine GO_rd rfl rfl (wn_on rfl rfl rfl rfl) rfl hpS (fun w hp => (rd_bin rfl rfl rfl bo_sgeq)) ?_
      refine GO_rdT (v := .bool _) rfl (wn_none rfl) rfl (fun w => (rd_pickT rfl rfl rfl)) ?_
      refine GO_nil ?_
      refine GW_cond rfl (fun hb6 => ?_) (fun hb6 => ?_)
      ·(try simp only [decide_eq_true_eq, decide_eq_false_iff_not, Bool.not_eq_true', Bool.not_eq_false', Bool.not_eq_eq_eq_not, Bool.not_true, Bool.not_false, Int.not_lt, Int.not_le] at hb6)
       have h2 := hb6
       refine GW_seq ?_
       refine GW_region ?_
       refine GL_rd (wn_none rfl) rfl (rd_field rfl rfl fa51_0 _ rfl) ?_
       refine GL_rd (wn_none rfl) rfl (rd_load rfl rfl Try.underlying48 rfl ((cell_of_cells (hp.get 3 rfl) _).trans rfl)) ?_
       refine GL_rd (wn_none rfl) rfl (rd_loadC rfl rfl Try.underlying61 rfl ts61 (hp.get 1 rfl) (roC_len _)) ?_
       refine GL_lit1 (L := (roC (nm, ov, ops))) (wn_none rfl) rfl rfl rfl rfl Try.underlying48 ts61 tz61 (by kernel_rfl) rfl hp ?_
       intro g5 w hp
       refine GL_append (i := 5) (wn_none rfl) rfl rfl rfl rfl Try.underlying48 ti61 rfl (by decide) hp rfl (Sl.row (hp.get 0 rfl)) (oneC rfl (one1 (sl_one hov))) (by omega) (by omega) ?_
       intro v w hp
       obtain ⟨Av, cv, rfl⟩ := row_shape (hp.get 5 rfl)
       rw [roR_snoc] at hp
       refine GL_rd (wn_none rfl) rfl (rd_field rfl rfl fa51_0 _ rfl) ?_
       refine GL_store (i := 4) (wn_none rfl) rfl rfl rfl rfl ts48 rfl rfl (one1 rfl) hp rfl (by first | exact Nat.le_of_ble_eq_true rfl | simp [bys_length, *]) rfl ?_
       intro w hp
       refine GL_nil ?_
       refine GW_region ?_
       refine GL_rd (v := .bool _) (wn_none rfl) rfl (rd_assign rfl rfl) ?_
       refine GL_nil ?_
       refine GW_seq ?_
       refine GW_region ?_
       refine GL_rd (v := .int _ _) (wn_none rfl) rfl (rd_move rfl rfl) ?_
       refine GL_rd (v := .int .i64 (roF R nm)) (wn_none rfl) rfl (rd_move rfl rfl) ?_
       refine GL_rd (wn_none rfl) rfl (rd_bin rfl rfl rfl bo_neq) ?_
       refine GL_nil ?_
       refine GW_cond rfl (fun hb7 => ?_) (fun hb7 => ?_)
       ·(try simp only [decide_eq_true_eq, decide_eq_false_iff_not, Bool.not_eq_true', Bool.not_eq_false', Bool.not_eq_eq_eq_not, Bool.not_true, Bool.not_false, Int.not_lt, Int.not_le] at hb7)
        have e1 := defS_yes hst (by simpa using h2) hb7
        refine GW_drawnK 10 (.one 0 true (.one 1 true (.one 2 true (.one 3 true (.one 4 true (.one 5 true (.one 6 true (.one 7 false (.one 8 false (.one 9 true (.one 10 false .nil))))))))))) mixed (by kernel_rfl) hp (fun _ h => (h.sub (.cons _ (.cons_cons _ (.cons _ (.cons _ (.cons_cons _ (.cons _ .slnil)))))))) fun w hp => ?_
        have hpS2 := (hp.sub (.cons _ (.cons_cons _ (.cons _ (.cons _ (.cons_cons _ (.cons _ .slnil)))))))
        refine GO_rdT rfl (wn_none rfl) rfl (fun w => (rd_field rfl rfl fa51_0 _ rfl)) ?_
        refine GO_rd (v := .slice _ _ _) rfl rfl (wn_none rfl) rfl hpS2 (fun w hp => (rd_load rfl rfl Try.underlying48 rfl ((cell_of_cells (hp.get 1 rfl) _).trans rfl))) ?_
        refine GO_rdT rfl (wn_none rfl) rfl (fun w => (rd_field rfl rfl fa51_0 _ rfl)) ?_
        refine GO_rd (v := .slice _ _ _) rfl rfl (wn_none rfl) rfl hpS2 (fun w hp => (rd_load rfl rfl Try.underlying48 rfl ((cell_of_cells (hp.get 0 rfl) _).trans rfl))) ?_
        refine GO_rdT (v := .int _ _) rfl (wn_none rfl) rfl (fun w => (rd_move rfl rfl)) ?_
        refine GO_rdT rfl (wn_none rfl) rfl (fun w => (rd_indexS (j := i) rfl rfl rfl Try.underlying48 ts61 rfl (by omega) _ rfl)) ?_
        refine GO_rd rfl rfl (wn_none rfl) rfl hpS2 (fun w hp => (rd_loadN (L := roC _) rfl rfl Try.underlying61 rfl ts61 (roC_len _) (fun jq u hj => Sl.roE (hR.keep hp.mod) i (by first | omega | assumption | exact Nat.lt_succ_self _) hj))) ?_
        refine GO_of_GL rfl ?_
        refine GL_lit1 (L := (roC (roAt R i))) (wn_none rfl) rfl rfl rfl rfl Try.underlying48 ts61 tz61 (by kernel_rfl) rfl hp ?_
        intro g6 w hp
        have hpS3 := (hp.sub (.cons _ (.cons _ (.cons_cons _ (.cons _ (.cons _ (.cons_cons _ (.cons _ .slnil))))))))
        refine GL_nil ⟨fun _ => hpS3, ?_⟩
        refine GO_of_GL rfl ?_
        refine GL_append (i := 6) (wn_none rfl) rfl rfl rfl rfl Try.underlying48 ti61 rfl (by decide) hp rfl (Sl.row (hp.get 0 rfl)) (roC_one hRo (roAt_mem (by omega))) (by first | omega | (simp only [List.length_append, List.length_cons, List.length_nil]; omega)) (by first | omega | (simp only [List.length_append, List.length_cons, List.length_nil]; omega)) ?_
        intro v2 w hp
        obtain ⟨Av2, cv2, rfl⟩ := row_shape (hp.get 6 rfl)
        rw [roR_snoc] at hp
        have hpS4 := (hp.sub (.cons _ (.cons _ (.cons_cons _ (.cons _ (.cons _ (.cons_cons _ (.cons _ .slnil))))))))
        refine GL_nil ⟨fun _ => hpS4, ?_⟩
        refine GO_rdT rfl (wn_none rfl) rfl (fun w => (rd_field rfl rfl fa51_0 _ rfl)) ?_
        refine GO_of_GL rfl ?_
        refine GL_store (i := 5) (wn_none rfl) rfl rfl rfl rfl ts48 rfl rfl (one1 rfl) hp rfl (by first | exact Nat.le_of_ble_eq_true rfl | simp [bys_length, *]) rfl ?_
        intro w hp
        refine GL_nil ⟨fun h => absurd h (by decide), ?_⟩
        refine GO_nil ?_
        refine GW_region ?_
        refine GL_rd (v := .int _ _) (wn_none rfl) rfl (rd_move rfl rfl) ?_
        refine GL_rd (wn_none rfl) rfl (rd_bin rfl rfl rfl (bo_add64 (by omega))) ?_
        refine GL_rd (v := .int _ _) (wn_none rfl) rfl (rd_assign rfl rfl) ?_
        refine GL_nil ?_
        have hp := ((((((hp.front 6 rfl).front 6 rfl).front 6 rfl).front 6 rfl).front 6 rfl).take 5)
        exact ihL0 (i + 1, _, _, _, _) _ _ (by simp only []; omega) ⟨_, slots7 rfl rfl rfl rfl rfl rfl rfl, hp, by omega, e1, hR⟩
       ·(try simp only [decide_eq_true_eq, decide_eq_false_iff_not, Bool.not_eq_true', Bool.not_eq_false', Bool.not_eq_eq_eq_not, Bool.not_true, Bool.not_false, Int.not_lt, Int.not_le] at hb7)
        have e1 := defS_yesK hst (by simpa using h2) hb7
        refine GW_skip ?_
        refine GW_region ?_
        refine GL_rd (v := .int _ _) (wn_none rfl) rfl (rd_move rfl rfl) ?_
        refine GL_rd (wn_none rfl) rfl (rd_bin rfl rfl rfl (bo_add64 (by omega))) ?_
        refine GL_rd (v := .int _ _) (wn_none rfl) rfl (rd_assign rfl rfl) ?_
        refine GL_nil ?_
        have hp := ((((((hp.front 5 rfl).front 5 rfl).front 5 rfl).front 5 rfl).front 5 rfl).take 5)
        exact ihL0 (i + 1, _, _, _, _) _ _ (by simp only []; omega) ⟨_, slots7 rfl rfl rfl rfl rfl rfl rfl, hp, by omega, e1, hR⟩
      ·(try simp only [decide_eq_true_eq, decide_eq_false_iff_not, Bool.not_eq_true', Bool.not_eq_false', Bool.not_eq_eq_eq_not, Bool.not_true, Bool.not_false, Int.not_lt, Int.not_le] at hb6)
       have hc : false = true ∨ ltS (roAt R i).1 nm = true := .inr (by simpa using hb6)
       refine GW_skip ?_
       refine GW_seq ?_
       refine GW_region ?_
       refine GL_rd (v := .int _ _) (wn_none rfl) rfl (rd_move rfl rfl) ?_
       refine GL_rd (v := .int .i64 (roF R nm)) (wn_none rfl) rfl (rd_move rfl rfl) ?_
       refine GL_rd (wn_none rfl) rfl (rd_bin rfl rfl rfl bo_neq) ?_
       refine GL_nil ?_
       refine GW_cond rfl (fun hb8 => ?_) (fun hb8 => ?_)
       ·(try simp only [decide_eq_true_eq, decide_eq_false_iff_not, Bool.not_eq_true', Bool.not_eq_false', Bool.not_eq_eq_eq_not, Bool.not_true, Bool.not_false, Int.not_lt, Int.not_le] at hb8)
        have e1 := defS_no hst hc hb8
        refine GW_drawnK 10 (.one 0 true (.one 1 true (.one 2 true (.one 3 true (.one 4 true (.one 5 true (.one 6 true (.one 7 false (.one 8 false (.one 9 true (.one 10 false .nil))))))))))) mixed (by kernel_rfl) hp (fun _ h => (h.sub (.cons_cons _ (.cons _ (.cons _ (.cons_cons _ (.cons _ .slnil))))))) fun w hp => ?_
        have hpS5 := (hp.sub (.cons_cons _ (.cons _ (.cons _ (.cons_cons _ (.cons _ .slnil))))))
        refine GO_rdT rfl (wn_none rfl) rfl (fun w => (rd_field rfl rfl fa51_0 _ rfl)) ?_
        refine GO_rd rfl rfl (wn_none rfl) rfl hpS5 (fun w hp => (rd_load rfl rfl Try.underlying48 rfl ((cell_of_cells (hp.get 1 rfl) _).trans rfl))) ?_
        refine GO_rdT rfl (wn_none rfl) rfl (fun w => (rd_field rfl rfl fa51_0 _ rfl)) ?_
        refine GO_rd (v := .slice _ _ _) rfl rfl (wn_none rfl) rfl hpS5 (fun w hp => (rd_load rfl rfl Try.underlying48 rfl ((cell_of_cells (hp.get 0 rfl) _).trans rfl))) ?_
        refine GO_rdT (v := .int _ _) rfl (wn_none rfl) rfl (fun w => (rd_move rfl rfl)) ?_
        refine GO_rdT rfl (wn_none rfl) rfl (fun w => (rd_indexS (j := i) rfl rfl rfl Try.underlying48 ts61 rfl (by omega) _ rfl)) ?_
        refine GO_rd rfl rfl (wn_none rfl) rfl hpS5 (fun w hp => (rd_loadN (L := roC _) rfl rfl Try.underlying61 rfl ts61 (roC_len _) (fun jq u hj => Sl.roE (hR.keep hp.mod) i (by first | omega | assumption | exact Nat.lt_succ_self _) hj))) ?_
        refine GO_of_GL rfl ?_
        refine GL_lit1 (L := (roC (roAt R i))) (wn_none rfl) rfl rfl rfl rfl Try.underlying48 ts61 tz61 (by kernel_rfl) rfl hp ?_
        intro g7 w hp
        have hpS6 := (hp.sub (.cons _ (.cons_cons _ (.cons _ (.cons _ (.cons_cons _ (.cons _ .slnil)))))))
        refine GL_nil ⟨fun _ => hpS6, ?_⟩
        refine GO_of_GL rfl ?_
        refine GL_append (i := 5) (wn_none rfl) rfl rfl rfl rfl Try.underlying48 ti61 rfl (by decide) hp rfl (Sl.row (hp.get 0 rfl)) (roC_one hRo (roAt_mem (by omega))) (by first | omega | (simp only [List.length_append, List.length_cons, List.length_nil]; omega)) (by first | omega | (simp only [List.length_append, List.length_cons, List.length_nil]; omega)) ?_
        intro v3 w hp
        obtain ⟨Av3, cv3, rfl⟩ := row_shape (hp.get 5 rfl)
        rw [roR_snoc] at hp
        have hpS7 := (hp.sub (.cons _ (.cons_cons _ (.cons _ (.cons _ (.cons_cons _ (.cons _ .slnil)))))))
        refine GL_nil ⟨fun _ => hpS7, ?_⟩
        refine GO_rdT rfl (wn_none rfl) rfl (fun w => (rd_field rfl rfl fa51_0 _ rfl)) ?_
        refine GO_of_GL rfl ?_
        refine GL_store (i := 4) (wn_none rfl) rfl rfl rfl rfl ts48 rfl rfl (one1 rfl) hp rfl (by first | exact Nat.le_of_ble_eq_true rfl | simp [bys_length, *]) rfl ?_
        intro w hp
        refine GL_nil ⟨fun h => absurd h (by decide), ?_⟩
        refine GO_nil ?_
        refine GW_region ?_
        refine GL_rd (v := .int _ _) (wn_none rfl) rfl (rd_move rfl rfl) ?_
        refine GL_rd (wn_none rfl) rfl (rd_bin rfl rfl rfl (bo_add64 (by omega))) ?_
        refine GL_rd (v := .int _ _) (wn_none rfl) rfl (rd_assign rfl rfl) ?_
        refine GL_nil ?_
        have hp := ((((((hp.front 5 rfl).front 5 rfl).front 5 rfl).front 5 rfl).front 5 rfl).take 5)
        exact ihL0 (i + 1, _, _, _, _) _ _ (by simp only []; omega) ⟨_, slots7 rfl rfl rfl rfl rfl rfl rfl, hp, by omega, e1, hR⟩
       ·(try simp only [decide_eq_true_eq, decide_eq_false_iff_not, Bool.not_eq_true', Bool.not_eq_false', Bool.not_eq_eq_eq_not, Bool.not_true, Bool.not_false, Int.not_lt, Int.not_le] at hb8)
        have e1 := defS_noK hst hc hb8
        refine GW_skip ?_
        refine GW_region ?_
        refine GL_rd (v := .int _ _) (wn_none rfl) rfl (rd_move rfl rfl) ?_
        refine GL_rd (wn_none rfl) rfl (rd_bin rfl rfl rfl (bo_add64 (by omega))) ?_
        refine GL_rd (v := .int _ _) (wn_none rfl) rfl (rd_assign rfl rfl) ?_
        refine GL_nil ?_
        have hp := ((((((hp.front 4 rfl).front 4 rfl).front 4 rfl).front 4 rfl).front 4 rfl).take 5)
        exact ihL0 (i + 1, _, _, _, _) _ _ (by simp only []; omega) ⟨_, slots7 rfl rfl rfl rfl rfl rfl rfl, hp, by omega, e1, hR⟩
     ·intro hb5; (try simp only [decide_eq_true_eq, decide_eq_false_iff_not, Bool.not_eq_true', Bool.not_eq_false', Bool.not_eq_eq_eq_not, Bool.not_true, Bool.not_false, Int.not_lt, Int.not_le] at hb5)
      obtain rfl : p = true := by simpa using hb5
      have hc : true = true ∨ ltS (roAt R i).1 nm = true := .inl rfl
      refine GO_pass rfl (nw_off rfl rfl rfl rfl rfl) rfl ?_
      refine GO_pass rfl (nw_off rfl rfl rfl rfl rfl) rfl ?_
      refine GO_pass rfl (nw_off rfl rfl rfl rfl rfl) rfl ?_
      refine GO_pass rfl (nw_off rfl rfl rfl rfl rfl) rfl ?_
      refine GO_pass rfl (nw_off rfl rfl rfl rfl rfl) rfl ?_
      refine GO_pass rfl (nw_off rfl rfl rfl rfl rfl) rfl ?_
      refine GO_pass rfl (nw_off rfl rfl rfl rfl rfl) rfl ?_
      refine GO_pass rfl (nw_off rfl rfl rfl rfl rfl) rfl ?_
      refine GO_pass rfl (nw_off rfl rfl rfl rfl rfl) rfl ?_
      refine GO_rdT (v := .bool _) rfl (wn_none rfl) rfl (fun w => (rd_pickF rfl rfl rfl)) ?_
      refine GO_nil ?_
      refine GW_false rfl ?_
      refine GW_skip ?_
      refine GW_seq ?_
      refine GW_region ?_
      refine GL_rd (v := .int _ _) (wn_none rfl) rfl (rd_move rfl rfl) ?_
      refine GL_rd (v := .int .i64 (roF R nm)) (wn_none rfl) rfl (rd_move rfl rfl) ?_
      refine GL_rd (wn_none rfl) rfl (rd_bin rfl rfl rfl bo_neq) ?_
      refine GL_nil ?_
      refine GW_cond rfl (fun hb9 => ?_) (fun hb9 => ?_)
      ·(try simp only [decide_eq_true_eq, decide_eq_false_iff_not, Bool.not_eq_true', Bool.not_eq_false', Bool.not_eq_eq_eq_not, Bool.not_true, Bool.not_false, Int.not_lt, Int.not_le] at hb9)
       have e1 := defS_no hst hc hb9
       refine GW_drawnK 10 (.one 0 true (.one 1 true (.one 2 true (.one 3 true (.one 4 true (.one 5 true (.one 6 true (.one 7 false (.one 8 false (.one 9 true (.one 10 false .nil))))))))))) mixed (by kernel_rfl) hp (fun _ h => (h.sub (.cons_cons _ (.cons _ (.cons _ (.cons_cons _ (.cons _ .slnil))))))) fun w hp => ?_
       have hpS8 := (hp.sub (.cons_cons _ (.cons _ (.cons _ (.cons_cons _ (.cons _ .slnil))))))
       refine GO_rdT rfl (wn_none rfl) rfl (fun w => (rd_field rfl rfl fa51_0 _ rfl)) ?_
       refine GO_rd rfl rfl (wn_none rfl) rfl hpS8 (fun w hp => (rd_load rfl rfl Try.underlying48 rfl ((cell_of_cells (hp.get 1 rfl) _).trans rfl))) ?_
       refine GO_rdT rfl (wn_none rfl) rfl (fun w => (rd_field rfl rfl fa51_0 _ rfl)) ?_
       refine GO_rd (v := .slice _ _ _) rfl rfl (wn_none rfl) rfl hpS8 (fun w hp => (rd_load rfl rfl Try.underlying48 rfl ((cell_of_cells (hp.get 0 rfl) _).trans rfl))) ?_
       refine GO_rdT (v := .int _ _) rfl (wn_none rfl) rfl (fun w => (rd_move rfl rfl)) ?_
       refine GO_rdT rfl (wn_none rfl) rfl (fun w => (rd_indexS (j := i) rfl rfl rfl Try.underlying48 ts61 rfl (by omega) _ rfl)) ?_
       refine GO_rd rfl rfl (wn_none rfl) rfl hpS8 (fun w hp => (rd_loadN (L := roC _) rfl rfl Try.underlying61 rfl ts61 (roC_len _) (fun jq u hj => Sl.roE (hR.keep hp.mod) i (by first | omega | assumption | exact Nat.lt_succ_self _) hj))) ?_
       refine GO_of_GL rfl ?_
       refine GL_lit1 (L := (roC (roAt R i))) (wn_none rfl) rfl rfl rfl rfl Try.underlying48 ts61 tz61 (by kernel_rfl) rfl hp ?_
       intro g8 w hp
       have hpS9 := (hp.sub (.cons _ (.cons_cons _ (.cons _ (.cons _ (.cons_cons _ (.cons _ .slnil)))))))
       refine GL_nil ⟨fun _ => hpS9, ?_⟩
       refine GO_of_GL rfl ?_
       refine GL_append (i := 5) (wn_none rfl) rfl rfl rfl rfl Try.underlying48 ti61 rfl (by decide) hp rfl (Sl.row (hp.get 0 rfl)) (roC_one hRo (roAt_mem (by omega))) (by first | omega | (simp only [List.length_append, List.length_cons, List.length_nil]; omega)) (by first | omega | (simp only [List.length_append, List.length_cons, List.length_nil]; omega)) ?_
       intro v4 w hp
       obtain ⟨Av4, cv4, rfl⟩ := row_shape (hp.get 5 rfl)
       rw [roR_snoc] at hp
       have hpS10 := (hp.sub (.cons _ (.cons_cons _ (.cons _ (.cons _ (.cons_cons _ (.cons _ .slnil)))))))
       refine GL_nil ⟨fun _ => hpS10, ?_⟩
       refine GO_rdT rfl (wn_none rfl) rfl (fun w => (rd_field rfl rfl fa51_0 _ rfl)) ?_
       refine GO_of_GL rfl ?_
       refine GL_store (i := 4) (wn_none rfl) rfl rfl rfl rfl ts48 rfl rfl (one1 rfl) hp rfl (by first | exact Nat.le_of_ble_eq_true rfl | simp [bys_length, *]) rfl ?_
       intro w hp
       refine GL_nil ⟨fun h => absurd h (by decide), ?_⟩
       refine GO_nil ?_
       refine GW_region ?_
       refine GL_rd (v := .int _ _) (wn_none rfl) rfl (rd_move rfl rfl) ?_
       refine GL_rd (wn_none rfl) rfl (rd_bin rfl rfl rfl (bo_add64 (by omega))) ?_
       refine GL_rd (v := .int _ _) (wn_none rfl) rfl (rd_assign rfl rfl) ?_
       refine GL_nil ?_
       have hp := ((((((hp.front 5 rfl).front 5 rfl).front 5 rfl).front 5 rfl).front 5 rfl).take 5)
       exact ihL0 (i + 1, _, _, _, _) _ _ (by simp only []; omega) ⟨_, slots7 rfl rfl rfl rfl rfl rfl rfl, hp, by omega, e1, hR⟩
      ·(try simp only [decide_eq_true_eq, decide_eq_false_iff_not, Bool.not_eq_true', Bool.not_eq_false', Bool.not_eq_eq_eq_not, Bool.not_true, Bool.not_false, Int.not_lt, Int.not_le] at hb9)
       have e1 := defS_noK hst hc hb9
       refine GW_skip ?_
       refine GW_region ?_
       refine GL_rd (v := .int _ _) (wn_none rfl) rfl (rd_move rfl rfl) ?_
       refine GL_rd (wn_none rfl) rfl (rd_bin rfl rfl rfl (bo_add64 (by omega))) ?_
       refine GL_rd (v := .int _ _) (wn_none rfl) rfl (rd_assign rfl rfl) ?_
       refine GL_nil ?_
       have hp := ((((((hp.front 4 rfl).front 4 rfl).front 4 rfl).front 4 rfl).front 4 rfl).take 5)
       exact ihL0 (i + 1, _, _, _, _) _ _ (by simp only []; omega) ⟨_, slots7 rfl rfl rfl rfl rfl rfl rfl, hp, by omega, e1, hR⟩
    ·(try simp only [decide_eq_true_eq, decide_eq_false_iff_not, Bool.not_eq_true', Bool.not_eq_false', Bool.not_eq_eq_eq_not, Bool.not_true, Bool.not_false, Int.not_lt, Int.not_le] at hb4)
     obtain ⟨Ay, cy, rfl⟩ := row_shape (hp.get 4 rfl)
     obtain rfl : i = R.length := by omega
     have hol := defS_len R (nm, ov, ops) (roF R nm) R.length
     rw [hst] at hol
     replace hol : o.length ≤ 2 * R.length := hol
     have hall := defS_all hs hst
     refine GW_exit ?_
     refine GW_seq ?_
     refine GW_seq ?_
     refine GW_region ?_
     refine GL_rd (v := .bool _) (wn_none rfl) rfl (rd_move rfl rfl) ?_
     refine GL_rd (wn_none rfl) rfl (rd_not rfl rfl) ?_
     refine GL_nil ?_
     refine GW_cond rfl (fun hb10 => ?_) (fun hb10 => ?_)
     ·(try simp only [decide_eq_true_eq, decide_eq_false_iff_not, Bool.not_eq_true', Bool.not_eq_false', Bool.not_eq_eq_eq_not, Bool.not_true, Bool.not_false, Int.not_lt, Int.not_le] at hb10)
      obtain rfl : p = false := hb10
      refine GW_region ?_
      refine GL_rd (wn_none rfl) rfl (rd_field rfl rfl fa51_0 _ rfl) ?_
      refine GL_rd (wn_none rfl) rfl (rd_load rfl rfl Try.underlying48 rfl ((cell_of_cells (hp.get 3 rfl) _).trans rfl)) ?_
      refine GL_rd (wn_none rfl) rfl (rd_loadC rfl rfl Try.underlying61 rfl ts61 (hp.get 1 rfl) (roC_len _)) ?_
      refine GL_lit1 (L := (roC (nm, ov, ops))) (wn_none rfl) rfl rfl rfl rfl Try.underlying48 ts61 tz61 (by kernel_rfl) rfl hp ?_
      intro g9 w hp
      refine GL_append (i := 5) (wn_none rfl) rfl rfl rfl rfl Try.underlying48 ti61 rfl (by decide) hp rfl (Sl.row (hp.get 0 rfl)) (oneC rfl (one1 (sl_one hov))) (by omega) (by omega) ?_
      intro v5 w hp
      obtain ⟨Av5, cv5, rfl⟩ := row_shape (hp.get 5 rfl)
      rw [roR_snoc] at hp
      refine GL_rd (wn_none rfl) rfl (rd_field rfl rfl fa51_0 _ rfl) ?_
      refine GL_store (i := 4) (wn_none rfl) rfl rfl rfl rfl ts48 rfl rfl (one1 rfl) hp rfl (by first | exact Nat.le_of_ble_eq_true rfl | simp [bys_length, *]) rfl ?_
      intro w hp
      refine GL_nil ?_
      refine GW_seq ?_
      refine GW_region ?_
      refine GL_rd (wn_none rfl) rfl (rd_loadC rfl rfl Try.underlying51 rfl ts51 (hp.get 4 rfl) (by first | (rw [bys_length]; first | exact a32_len _) | rfl | simp [bys_length, *])) ?_
      refine GL_store (i := 3) (wn_none rfl) rfl rfl rfl rfl ts51 rfl rfl (oneC rfl (oneC rfl one0)) hp rfl (by first | exact Nat.le_of_ble_eq_true rfl | simp [bys_length, *]) rfl ?_
      intro w hp
      refine GL_rd (v := .int _ _) (wn_none rfl) rfl (rd_assign rfl rfl) ?_
      refine GL_nil ?_
      refine GW_ret ?_
      have ex : defX R (nm, ov, ops) = defR R (nm, ov, ops) := if_pos ed
      refine ⟨_, res2 Try.results56 (rv_cell rfl rfl Try.underlying51 rfl ts51 rfl (hp.get 3 rfl)) (rv_tmp (v := .int _ _) rfl rfl), (.slice Av5 _ cv5), by rw [ed]; first | done | rfl, .inr ?_⟩
      rw [ex, ← hall]
      have hp := ((hp.front 5 rfl).take 1)
      exact hp
     ·(try simp only [decide_eq_true_eq, decide_eq_false_iff_not, Bool.not_eq_true', Bool.not_eq_false', Bool.not_eq_eq_eq_not, Bool.not_true, Bool.not_false, Int.not_lt, Int.not_le] at hb10)
      obtain rfl : p = true := hb10
      refine GW_skip ?_
      refine GW_seq ?_
      refine GW_region ?_
      refine GL_rd (wn_none rfl) rfl (rd_loadC rfl rfl Try.underlying51 rfl ts51 (hp.get 3 rfl) (by first | (rw [bys_length]; first | exact a32_len _) | rfl | simp [bys_length, *])) ?_
      refine GL_store (i := 2) (wn_none rfl) rfl rfl rfl rfl ts51 rfl rfl (oneC rfl (oneC rfl one0)) hp rfl (by first | exact Nat.le_of_ble_eq_true rfl | simp [bys_length, *]) rfl ?_
      intro w hp
      refine GL_rd (v := .int _ _) (wn_none rfl) rfl (rd_assign rfl rfl) ?_
      refine GL_nil ?_
      refine GW_ret ?_
      have ex : defX R (nm, ov, ops) = defR R (nm, ov, ops) := if_pos ed
      refine ⟨_, res2 Try.results56 (rv_cell rfl rfl Try.underlying51 rfl ts51 rfl (hp.get 2 rfl)) (rv_tmp (v := .int _ _) rfl rfl), (.slice Ay _ cy), by rw [ed]; first | done | rfl, .inr ?_⟩
      rw [ex, ← hall]
      have hp := ((hp.front 4 rfl).take 1)
      exact hp
   ·have hp := hp.nilRow 61 2
    have hp := ((((((hp.front 0 rfl).front 1 rfl).front 4 rfl).front 4 rfl).front 4 rfl).take 5)
    refine ⟨_, slots7 rfl rfl rfl rfl rfl rfl rfl, hp, Nat.zero_le _, rfl, hR⟩
set_option maxHeartbeats 1000000 in
theorem ref_gPeople (rv lv : Value) (R : List RO) (L : List HA) (w0 : World) (hR : Sl w0 rv 2 R.length (R.flatMap roC)) (hL : Sl w0 lv 2 L.length (L.flatMap haC)) (hLb : L.length ≤ 65000) : Does Try.prog 26 #[.agg ⟨[rv, lv]⟩] w0 fun v w' => Hp w0 [] w' [.row 9 1 v ((peoL L)).length (((peoL L)).map Value.string)] := by
 obtain ⟨A, c, rfl⟩ := sl_shape hR
 obtain ⟨B, d, rfl⟩ := sl_shape hL
 have hRle := hR.le
 have hLle := hL.le
 refine does_of (l := [.agg ⟨[.slice A R.length c, .slice B L.length d]⟩]) Try.func26 (by kernel_rfl) rfl Try.ntmps26 rfl rfl (by kernel_rfl) ?_
 have hp := Hp.refl w0 []
 refine GW_seq ?_
 refine GW_region ?_
 refine GL_box (wn_none rfl) rfl rfl rfl rfl hp ?_
 intro g w hp
 refine GL_rd (v := .slice _ _ _) (wn_none rfl) rfl (rd_assign rfl rfl) ?_
 refine GL_nil ?_
 refine GW_seq ?_
 refine GW_region ?_
 refine GL_rd (v := .slice _ _ _) (wn_none rfl) rfl (rd_assign rfl rfl) ?_
 refine GL_nil ?_
 refine GW_seq ?_
 refine GW_seq ?_
 refine GW_region ?_
 refine GL_rd (v := .int _ _) (wn_none rfl) rfl (rd_assign rfl rfl) ?_
 refine GL_nil ?_
 refine GW_block ?_
 refine GW_loop ?_
 refine Lp_ind (α := Nat × Value × Option Addr) (fun a_0 f_0 w' => match a_0 with | (i, y, B) => ∃ fz, f_0 = (upd (upd (upd fz 3 (y)) 4 (.int .i64 (i : Int))) 1 (.pointer (some ⟨g, 0, none⟩))) ∧ Hp w0 [] w' [cells g 51 [.slice A R.length c, .slice B L.length d], .row 9 1 y ((peoL (L.take i))).length (((peoL (L.take i))).map Value.string)] ∧ (i ≤ L.length) ∧ (Sl w0 (.slice B L.length d) 2 L.length (L.flatMap haC))) (fun a_0 => match a_0 with | (i, y, B) => L.length - i) ?_ (0, .slice none 0 0, B) _ _ ?_
 ·rintro ⟨i, y, B⟩ f wz ⟨fz, rfl, hp, hi0, hL⟩ ihL0
  refine Lp_round ?_
  refine GW_seq ?_
  refine GW_seq ?_
  refine GW_region ?_
  refine GL_rd (v := .int .i64 (i : Int)) (wn_none rfl) rfl (rd_move rfl rfl) ?_
  refine GL_rd (wn_none rfl) rfl (rd_field rfl rfl fa51_1 _ rfl) ?_
  refine GL_rd (v := .slice _ _ _) (wn_none rfl) rfl (rd_load rfl rfl Try.underlying49 rfl ((cell_of_cells (hp.get 0 rfl) _).trans rfl)) ?_
  refine GL_rd (wn_none rfl) rfl (rd_len rfl rfl Try.underlying49) ?_
  refine GL_rd (wn_none rfl) rfl (rd_bin rfl rfl rfl bo_lss) ?_
  refine GL_nil ?_
  refine GW_cond rfl (fun hb => ?_) (fun hb => ?_)
  ·(try simp only [decide_eq_true_eq, decide_eq_false_iff_not, Bool.not_eq_true', Bool.not_eq_false', Bool.not_eq_eq_eq_not, Bool.not_true, Bool.not_false, Int.not_lt, Int.not_le] at hb)
   obtain ⟨gB, bB, rfl⟩ := hL.addr (by rw [flat_length haC_len]; omega)
   obtain ⟨Ay, cy, rfl⟩ := row_shape (hp.get 1 rfl)
   have hlp := peo_len (L.take i)
   rw [List.length_take] at hlp
   refine GW_skip ?_
   refine GW_seq ?_
   refine GW_block ?_
   refine GW_seq ?_
   refine GW_region ?_
   refine GL_rd (v := .slice _ _ _) (wn_none rfl) rfl (rd_assign rfl rfl) ?_
   refine GL_nil ?_
   refine GW_seq ?_
   refine GW_region ?_
   refine GL_rd (v := .bool _) (wn_none rfl) rfl (rd_assign rfl rfl) ?_
   refine GL_nil ?_
   refine GW_seq ?_
   refine GW_seq ?_
   refine GW_region ?_
   refine GL_rd (v := .int _ _) (wn_none rfl) rfl (rd_assign rfl rfl) ?_
   refine GL_nil ?_
   refine GW_block ?_
   refine GW_loop ?_
   refine Lp_ind (α := Nat × List ByteArray × Bool × Value × Option Addr) (fun a_0 f_0 w' => match a_0 with | (k, o, p, z, Ay) => ∃ fz, f_0 = (upd (upd (upd (upd (upd (upd fz 3 (.slice Ay (peoL (L.take i)).length cy)) 5 (z)) 6 (.bool p)) 7 (.int .i64 (k : Int))) 1 (.pointer (some ⟨g, 0, none⟩))) 4 (.int .i64 (i : Int))) ∧ Hp w0 [] w' [cells g 51 [.slice A R.length c, .slice (some ⟨gB, bB, none⟩) L.length d], .row 9 1 (.slice Ay (peoL (L.take i)).length cy) ((peoL (L.take i))).length (((peoL (L.take i))).map Value.string), .row 9 1 z (o).length ((o).map Value.string)] ∧ (k ≤ (peoL (L.take i)).length) ∧ (insN (peoL (L.take i)) (haAt L i).1 k = (o, p))) (fun a_0 => match a_0 with | (k, o, p, z, Ay) => (peoL (L.take i)).length - k) ?_ (0, [], false, .slice none 0 0, Ay) _ _ ?_
   ·rintro ⟨k, o, p, z, Ay⟩ f wz ⟨fz, rfl, hp, hk0, hst⟩ ihL1
    have hol := insN_len (peoL (L.take i)) (haAt L i).1 k
    rw [hst] at hol
    replace hol : o.length ≤ 2 * (peoL (L.take i)).length := hol
    refine Lp_round ?_
    refine GW_seq ?_
    refine GW_seq ?_
    refine GW_region ?_
    refine GL_rd (v := .int _ _) (wn_none rfl) rfl (rd_move rfl rfl) ?_
    refine GL_rd (v := .slice _ _ _) (wn_none rfl) rfl (rd_move rfl rfl) ?_
    refine GL_rd (wn_none rfl) rfl (rd_len rfl rfl Try.underlying62) ?_
    refine GL_rd (wn_none rfl) rfl (rd_bin rfl rfl rfl bo_lss) ?_
    refine GL_nil ?_
    refine GW_cond rfl (fun hb2 => ?_) (fun hb2 => ?_)
    ·(try simp only [decide_eq_true_eq, decide_eq_false_iff_not, Bool.not_eq_true', Bool.not_eq_false', Bool.not_eq_eq_eq_not, Bool.not_true, Bool.not_false, Int.not_lt, Int.not_le] at hb2)
     obtain ⟨gS, bS, rfl⟩ := (Sl.row (hp.get 1 rfl)).addr (by rw [List.length_map]; omega)
     refine GW_skip ?_
     refine GW_seq ?_
     refine GW_block ?_
     refine GW_seq ?_
     refine GW_seq ?_
     refine GW_drawnK 11 (.one 0 true (.one 1 true (.one 2 true (.one 3 true (.one 4 true (.one 5 true (.one 6 true (.one 7 true (.one 8 true (.one 9 true (.one 10 true .nil))))))))))) mixed (by kernel_rfl) hp (fun _ h => h) fun w hp => ?_
     have hpS := hp
     refine GO_rdT (v := .slice _ _ _) rfl (wn_none rfl) rfl (fun w => (rd_move rfl rfl)) ?_
     refine GO_rdT (v := .int _ _) rfl (wn_none rfl) rfl (fun w => (rd_move rfl rfl)) ?_
     refine GO_rdT rfl (wn_none rfl) rfl (fun w => (rd_indexS (j := k) rfl rfl rfl Try.underlying62 ts9 rfl (by omega) _ rfl)) ?_
     refine GO_rd rfl rfl (wn_none rfl) rfl hpS (fun w hp => (rd_load rfl rfl Try.underlying9 rfl ((Sl.row (hp.get 1 rfl)).get _ _ (strAt_cell (l := (peoL (L.take i))) (i := k) (by omega))))) ?_
     refine GO_rdT rfl (wn_none rfl) rfl (fun w => (rd_field rfl rfl fa51_1 _ rfl)) ?_
     refine GO_rd (v := .slice _ _ _) rfl rfl (wn_none rfl) rfl hpS (fun w hp => (rd_load rfl rfl Try.underlying49 rfl ((cell_of_cells (hp.get 0 rfl) _).trans rfl))) ?_
     refine GO_rdT (v := .int .i64 (i : Int)) rfl (wn_none rfl) rfl (fun w => (rd_move rfl rfl)) ?_
     refine GO_rdT rfl (wn_none rfl) rfl (fun w => (rd_indexS (j := i) rfl rfl rfl Try.underlying49 ts128 rfl (by omega) _ rfl)) ?_
     refine GO_rdT rfl (wn_none rfl) rfl (fun w => (rd_field rfl rfl fa128_0 _ rfl)) ?_
     refine GO_rd rfl rfl (wn_none rfl) rfl hpS (fun w hp => (rd_load rfl rfl Try.underlying9 rfl (Sl.haE (hL.keep hp.mod) i (by first | omega | assumption | exact Nat.lt_succ_self _) (ha_who _)))) ?_
     refine GO_rd rfl rfl (wn_none rfl) rfl hpS (fun w hp => (rd_bin rfl rfl rfl bo_seql)) ?_
     refine GO_nil ?_
     refine GW_cond rfl (fun hb3 => ?_) (fun hb3 => ?_)
     ·(try simp only [decide_eq_true_eq, decide_eq_false_iff_not, Bool.not_eq_true', Bool.not_eq_false', Bool.not_eq_eq_eq_not, Bool.not_true, Bool.not_false, Int.not_lt, Int.not_le] at hb3)
      have e1 := insN_put (by omega) hst (.inr hb3)
      refine GW_region ?_
      refine GL_rd (v := .bool _) (wn_none rfl) rfl (rd_assign rfl rfl) ?_
      refine GL_nil ?_
      refine GW_seq ?_
      refine GW_seq ?_
      refine GW_drawnK 15 (.one 0 true (.one 1 true (.one 2 true (.one 3 true (.one 4 true (.one 5 true (.one 6 true (.one 7 true (.one 8 true (.one 9 true (.one 10 true (.one 11 true (.one 12 true (.one 13 true (.one 14 true .nil))))))))))))))) mixed (by kernel_rfl) hp (fun _ h => h) fun w hp => ?_
      have hpS2 := hp
      refine GO_rdT (v := .bool _) rfl (wn_none rfl) rfl (fun w => (rd_move rfl rfl)) ?_
      refine GO_rd rfl rfl (wn_none rfl) rfl hpS2 (fun w hp => (rd_not rfl rfl)) ?_
      refine GO_rdT (v := .bool _) rfl (wn_none rfl) rfl (fun w => (rd_move rfl rfl)) ?_
      refine GO_pass rfl (nw_off rfl rfl rfl rfl rfl) rfl ?_
      refine GO_pass rfl (nw_off rfl rfl rfl rfl rfl) rfl ?_
      refine GO_pass rfl (nw_off rfl rfl rfl rfl rfl) rfl ?_
      refine GO_pass rfl (nw_off rfl rfl rfl rfl rfl) rfl ?_
      refine GO_pass rfl (nw_off rfl rfl rfl rfl rfl) rfl ?_
      refine GO_pass rfl (nw_off rfl rfl rfl rfl rfl) rfl ?_
      refine GO_pass rfl (nw_off rfl rfl rfl rfl rfl) rfl ?_
      refine GO_pass rfl (nw_off rfl rfl rfl rfl rfl) rfl ?_
      refine GO_pass rfl (nw_off rfl rfl rfl rfl rfl) rfl ?_
      refine GO_pass rfl (nw_off rfl rfl rfl rfl rfl) rfl ?_
      refine GO_pass rfl (nw_off rfl rfl rfl rfl rfl) rfl ?_
      refine GO_rdT (v := .bool _) rfl (wn_none rfl) rfl (fun w => (rd_pickF rfl rfl rfl)) ?_
      refine GO_nil ?_
      refine GW_false rfl ?_
      refine GW_skip ?_
      refine GW_region ?_
      refine GL_rd (v := z) (wn_none rfl) rfl (rd_move rfl rfl) ?_
      refine GL_rd (v := .slice _ _ _) (wn_none rfl) rfl (rd_move rfl rfl) ?_
      refine GL_rd (v := .int _ _) (wn_none rfl) rfl (rd_move rfl rfl) ?_
      refine GL_rd (wn_none rfl) rfl (rd_indexS (j := k) rfl rfl rfl Try.underlying62 ts9 rfl (by omega) _ rfl) ?_
      refine GL_rd (wn_none rfl) rfl (rd_load rfl rfl Try.underlying9 rfl ((Sl.row (hp.get 1 rfl)).get _ _ (strAt_cell (l := (peoL (L.take i))) (i := k) (by omega)))) ?_
      refine GL_lit (L := [.string (strAt (peoL (L.take i)) k)]) (wn_none rfl) rfl rfl Try.underlying62 ts9 tz9 rfl (by kernel_rfl) rfl rfl hp ?_
      intro g2 w hp
      refine GL_append (i := 3) (wn_none rfl) rfl rfl rfl rfl Try.underlying62 ti9 rfl (by decide) hp rfl (Sl.row (hp.get 0 rfl)) (one1 rfl) (by first | omega | (simp only [List.length_append, List.length_cons, List.length_nil]; omega)) (by first | omega | (simp only [List.length_append, List.length_cons, List.length_nil]; omega)) ?_
      intro v w hp
      rw [stR_snocG] at hp
      refine GL_rd (v := v) (wn_none rfl) rfl (rd_assign rfl rfl) ?_
      refine GL_nil ?_
      refine GW_region ?_
      refine GL_rd (v := .int _ _) (wn_none rfl) rfl (rd_move rfl rfl) ?_
      refine GL_rd (wn_none rfl) rfl (rd_bin rfl rfl rfl (bo_add64 (by omega))) ?_
      refine GL_rd (v := .int _ _) (wn_none rfl) rfl (rd_assign rfl rfl) ?_
      refine GL_nil ?_
      have hp := ((((hp.front 3 rfl).front 3 rfl).front 3 rfl).take 3)
      exact ihL1 (k + 1, _, _, _, _) _ _ (by simp only []; omega) ⟨_, slots6 rfl rfl rfl rfl rfl rfl, hp, by omega, e1⟩
     ·(try simp only [decide_eq_true_eq, decide_eq_false_iff_not, Bool.not_eq_true', Bool.not_eq_false', Bool.not_eq_eq_eq_not, Bool.not_true, Bool.not_false, Int.not_lt, Int.not_le] at hb3)
      have hne := hb3
      refine GW_skip ?_
      refine GW_seq ?_
      refine GW_seq ?_
      refine GW_drawnK 15 (.one 0 true (.one 1 true (.one 2 true (.one 3 true (.one 4 true (.one 5 true (.one 6 true (.one 7 true (.one 8 true (.one 9 true (.one 10 true (.one 11 true (.one 12 true (.one 13 true (.one 14 true .nil))))))))))))))) mixed (by kernel_rfl) hp (fun _ h => h) fun w hp => ?_
      have hpS3 := hp
      refine GO_rdT (v := .bool _) rfl (wn_none rfl) rfl (fun w => (rd_move rfl rfl)) ?_
      refine GO_rd rfl rfl (wn_none rfl) rfl hpS3 (fun w hp => (rd_not rfl rfl)) ?_
      refine GO_rdT (v := .bool _) rfl (wn_none rfl) rfl (fun w => (rd_move rfl rfl)) ?_
      refine GO_split (t := 34) (b := _) rfl ?_ ?_
      ·intro hb4; (try simp only [decide_eq_true_eq, decide_eq_false_iff_not, Bool.not_eq_true', Bool.not_eq_false', Bool.not_eq_eq_eq_not, Bool.not_true, Bool.not_false, Int.not_lt, Int.not_le] at hb4)
       obtain rfl : p = false := hb4
       refine GO_rdT (v := .slice _ _ _) rfl (wn_on rfl rfl rfl rfl) rfl (fun w => (rd_move rfl rfl)) ?_
       refine GO_rdT (v := .int _ _) rfl (wn_on rfl rfl rfl rfl) rfl (fun w => (rd_move rfl rfl)) ?_
       refine GO_rdT rfl (wn_on rfl rfl rfl rfl) rfl (fun w => (rd_indexS (j := k) rfl rfl rfl Try.underlying62 ts9 rfl (by omega) _ rfl)) ?_
       refine GO_rd rfl rfl (wn_on rfl rfl rfl rfl) rfl hpS3 (fun w hp => (rd_load rfl rfl Try.underlying9 rfl ((Sl.row (hp.get 1 rfl)).get _ _ (strAt_cell (l := (peoL (L.take i))) (i := k) (by omega))))) ?_
       refine GO_rdT rfl (wn_on rfl rfl rfl rfl) rfl (fun w => (rd_field rfl rfl fa51_1 _ rfl)) ?_
       refine GO_rd (v := .slice _ _ _) rfl rfl (wn_on rfl rfl rfl rfl) rfl hpS3 (fun w hp => (rd_load rfl rfl Try.underlying49 rfl ((cell_of_cells (hp.get 0 rfl) _).trans rfl))) ?_
       refine GO_rdT (v := .int .i64 (i : Int)) rfl (wn_on rfl rfl rfl rfl) rfl (fun w => (rd_move rfl rfl)) ?_
       refine GO_rdT rfl (wn_on rfl rfl rfl rfl) rfl (fun w => (rd_indexS (j := i) rfl rfl rfl Try.underlying49 ts128 rfl (by omega) _ rfl)) ?_
       refine GO_rdT rfl (wn_on rfl rfl rfl rfl) rfl (fun w => (rd_field rfl rfl fa128_0 _ rfl)) ?_
       refine GO_rd rfl rfl (wn_on rfl rfl rfl rfl) rfl hpS3 (fun w hp => (rd_load rfl rfl Try.underlying9 rfl (Sl.haE (hL.keep hp.mod) i (by first | omega | assumption | exact Nat.lt_succ_self _) (ha_who _)))) ?_
       refine GO_rd rfl rfl (wn_on rfl rfl rfl rfl) rfl hpS3 (fun w hp => (rd_bin rfl rfl rfl bo_sgtr)) ?_
       refine GO_rdT (v := .bool _) rfl (wn_none rfl) rfl (fun w => (rd_pickT rfl rfl rfl)) ?_
       refine GO_nil ?_
       refine GW_cond rfl (fun hb5 => ?_) (fun hb5 => ?_)
       ·(try simp only [decide_eq_true_eq, decide_eq_false_iff_not, Bool.not_eq_true', Bool.not_eq_false', Bool.not_eq_eq_eq_not, Bool.not_true, Bool.not_false, Int.not_lt, Int.not_le] at hb5)
        have e1 := insN_new (by omega) hst hne (sgt_is hb5)
        refine GW_seq ?_
        refine GW_region ?_
        refine GL_rd (v := z) (wn_none rfl) rfl (rd_move rfl rfl) ?_
        refine GL_rd (wn_none rfl) rfl (rd_field rfl rfl fa51_1 _ rfl) ?_
        refine GL_rd (v := .slice _ _ _) (wn_none rfl) rfl (rd_load rfl rfl Try.underlying49 rfl ((cell_of_cells (hp.get 0 rfl) _).trans rfl)) ?_
        refine GL_rd (v := .int .i64 (i : Int)) (wn_none rfl) rfl (rd_move rfl rfl) ?_
        refine GL_rd (wn_none rfl) rfl (rd_indexS (j := i) rfl rfl rfl Try.underlying49 ts128 rfl (by omega) _ rfl) ?_
        refine GL_rd (wn_none rfl) rfl (rd_field rfl rfl fa128_0 _ rfl) ?_
        refine GL_rd (wn_none rfl) rfl (rd_load rfl rfl Try.underlying9 rfl (Sl.haE (hL.keep hp.mod) i (by first | omega | assumption | exact Nat.lt_succ_self _) (ha_who _))) ?_
        refine GL_lit (L := [.string (haAt L i).1]) (wn_none rfl) rfl rfl Try.underlying62 ts9 tz9 rfl (by kernel_rfl) rfl rfl hp ?_
        intro g3 w hp
        refine GL_append (i := 3) (wn_none rfl) rfl rfl rfl rfl Try.underlying62 ti9 rfl (by decide) hp rfl (Sl.row (hp.get 0 rfl)) (one1 rfl) (by first | omega | (simp only [List.length_append, List.length_cons, List.length_nil]; omega)) (by first | omega | (simp only [List.length_append, List.length_cons, List.length_nil]; omega)) ?_
        intro v2 w hp
        rw [stR_snocG] at hp
        refine GL_rd (v := v2) (wn_none rfl) rfl (rd_assign rfl rfl) ?_
        refine GL_nil ?_
        refine GW_region ?_
        refine GL_rd (v := .bool _) (wn_none rfl) rfl (rd_assign rfl rfl) ?_
        refine GL_nil ?_
        refine GW_region ?_
        refine GL_rd (v := v2) (wn_none rfl) rfl (rd_move rfl rfl) ?_
        refine GL_rd (v := .slice _ _ _) (wn_none rfl) rfl (rd_move rfl rfl) ?_
        refine GL_rd (v := .int _ _) (wn_none rfl) rfl (rd_move rfl rfl) ?_
        refine GL_rd (wn_none rfl) rfl (rd_indexS (j := k) rfl rfl rfl Try.underlying62 ts9 rfl (by omega) _ rfl) ?_
        refine GL_rd (wn_none rfl) rfl (rd_load rfl rfl Try.underlying9 rfl ((Sl.row (hp.get 2 rfl)).get _ _ (strAt_cell (l := (peoL (L.take i))) (i := k) (by omega)))) ?_
        refine GL_lit (L := [.string (strAt (peoL (L.take i)) k)]) (wn_none rfl) rfl rfl Try.underlying62 ts9 tz9 rfl (by kernel_rfl) rfl rfl hp ?_
        intro g4 w hp
        refine GL_append (i := 4) (wn_none rfl) rfl rfl rfl rfl Try.underlying62 ti9 rfl (by decide) hp rfl (Sl.row (hp.get 0 rfl)) (one1 rfl) (by first | omega | (simp only [List.length_append, List.length_cons, List.length_nil]; omega)) (by first | omega | (simp only [List.length_append, List.length_cons, List.length_nil]; omega)) ?_
        intro v3 w hp
        rw [stR_snocG] at hp
        refine GL_rd (v := v3) (wn_none rfl) rfl (rd_assign rfl rfl) ?_
        refine GL_nil ?_
        refine GW_region ?_
        refine GL_rd (v := .int _ _) (wn_none rfl) rfl (rd_move rfl rfl) ?_
        refine GL_rd (wn_none rfl) rfl (rd_bin rfl rfl rfl (bo_add64 (by omega))) ?_
        refine GL_rd (v := .int _ _) (wn_none rfl) rfl (rd_assign rfl rfl) ?_
        refine GL_nil ?_
        have hp := ((((hp.front 4 rfl).front 4 rfl).front 4 rfl).take 3)
        exact ihL1 (k + 1, _, _, _, _) _ _ (by simp only []; omega) ⟨_, slots6 rfl rfl rfl rfl rfl rfl, hp, by omega, e1⟩
       ·(try simp only [decide_eq_true_eq, decide_eq_false_iff_not, Bool.not_eq_true', Bool.not_eq_false', Bool.not_eq_eq_eq_not, Bool.not_true, Bool.not_false, Int.not_lt, Int.not_le] at hb5)
        have e1 := insN_pass (by omega) hst hne (sgt_no hb5 hne)
        refine GW_skip ?_
        refine GW_region ?_
        refine GL_rd (v := z) (wn_none rfl) rfl (rd_move rfl rfl) ?_
        refine GL_rd (v := .slice _ _ _) (wn_none rfl) rfl (rd_move rfl rfl) ?_
        refine GL_rd (v := .int _ _) (wn_none rfl) rfl (rd_move rfl rfl) ?_
        refine GL_rd (wn_none rfl) rfl (rd_indexS (j := k) rfl rfl rfl Try.underlying62 ts9 rfl (by omega) _ rfl) ?_
        refine GL_rd (wn_none rfl) rfl (rd_load rfl rfl Try.underlying9 rfl ((Sl.row (hp.get 1 rfl)).get _ _ (strAt_cell (l := (peoL (L.take i))) (i := k) (by omega)))) ?_
        refine GL_lit (L := [.string (strAt (peoL (L.take i)) k)]) (wn_none rfl) rfl rfl Try.underlying62 ts9 tz9 rfl (by kernel_rfl) rfl rfl hp ?_
        intro g5 w hp
        refine GL_append (i := 3) (wn_none rfl) rfl rfl rfl rfl Try.underlying62 ti9 rfl (by decide) hp rfl (Sl.row (hp.get 0 rfl)) (one1 rfl) (by first | omega | (simp only [List.length_append, List.length_cons, List.length_nil]; omega)) (by first | omega | (simp only [List.length_append, List.length_cons, List.length_nil]; omega)) ?_
        intro v4 w hp
        rw [stR_snocG] at hp
        refine GL_rd (v := v4) (wn_none rfl) rfl (rd_assign rfl rfl) ?_
        refine GL_nil ?_
        refine GW_region ?_
        refine GL_rd (v := .int _ _) (wn_none rfl) rfl (rd_move rfl rfl) ?_
        refine GL_rd (wn_none rfl) rfl (rd_bin rfl rfl rfl (bo_add64 (by omega))) ?_
        refine GL_rd (v := .int _ _) (wn_none rfl) rfl (rd_assign rfl rfl) ?_
        refine GL_nil ?_
        have hp := ((((hp.front 3 rfl).front 3 rfl).front 3 rfl).take 3)
        exact ihL1 (k + 1, _, _, _, _) _ _ (by simp only []; omega) ⟨_, slots6 rfl rfl rfl rfl rfl rfl, hp, by omega, e1⟩
      ·intro hb4; (try simp only [decide_eq_true_eq, decide_eq_false_iff_not, Bool.not_eq_true', Bool.not_eq_false', Bool.not_eq_eq_eq_not, Bool.not_true, Bool.not_false, Int.not_lt, Int.not_le] at hb4)
       obtain rfl : p = true := by simpa using hb4
       have e1 := insN_put (by omega) hst (.inl rfl)
       refine GO_pass rfl (nw_off rfl rfl rfl rfl rfl) rfl ?_
       refine GO_pass rfl (nw_off rfl rfl rfl rfl rfl) rfl ?_
       refine GO_pass rfl (nw_off rfl rfl rfl rfl rfl) rfl ?_
       refine GO_pass rfl (nw_off rfl rfl rfl rfl rfl) rfl ?_
       refine GO_pass rfl (nw_off rfl rfl rfl rfl rfl) rfl ?_
       refine GO_pass rfl (nw_off rfl rfl rfl rfl rfl) rfl ?_
       refine GO_pass rfl (nw_off rfl rfl rfl rfl rfl) rfl ?_
       refine GO_pass rfl (nw_off rfl rfl rfl rfl rfl) rfl ?_
       refine GO_pass rfl (nw_off rfl rfl rfl rfl rfl) rfl ?_
       refine GO_pass rfl (nw_off rfl rfl rfl rfl rfl) rfl ?_
       refine GO_pass rfl (nw_off rfl rfl rfl rfl rfl) rfl ?_
       refine GO_rdT (v := .bool _) rfl (wn_none rfl) rfl (fun w => (rd_pickF rfl rfl rfl)) ?_
       refine GO_nil ?_
       refine GW_false rfl ?_
       refine GW_skip ?_
       refine GW_region ?_
       refine GL_rd (v := z) (wn_none rfl) rfl (rd_move rfl rfl) ?_
       refine GL_rd (v := .slice _ _ _) (wn_none rfl) rfl (rd_move rfl rfl) ?_
       refine GL_rd (v := .int _ _) (wn_none rfl) rfl (rd_move rfl rfl) ?_
       refine GL_rd (wn_none rfl) rfl (rd_indexS (j := k) rfl rfl rfl Try.underlying62 ts9 rfl (by omega) _ rfl) ?_
       refine GL_rd (wn_none rfl) rfl (rd_load rfl rfl Try.underlying9 rfl ((Sl.row (hp.get 1 rfl)).get _ _ (strAt_cell (l := (peoL (L.take i))) (i := k) (by omega)))) ?_
       refine GL_lit (L := [.string (strAt (peoL (L.take i)) k)]) (wn_none rfl) rfl rfl Try.underlying62 ts9 tz9 rfl (by kernel_rfl) rfl rfl hp ?_
       intro g6 w hp
       refine GL_append (i := 3) (wn_none rfl) rfl rfl rfl rfl Try.underlying62 ti9 rfl (by decide) hp rfl (Sl.row (hp.get 0 rfl)) (one1 rfl) (by first | omega | (simp only [List.length_append, List.length_cons, List.length_nil]; omega)) (by first | omega | (simp only [List.length_append, List.length_cons, List.length_nil]; omega)) ?_
       intro v5 w hp
       rw [stR_snocG] at hp
       refine GL_rd (v := v5) (wn_none rfl) rfl (rd_assign rfl rfl) ?_
       refine GL_nil ?_
       refine GW_region ?_
       refine GL_rd (v := .int _ _) (wn_none rfl) rfl (rd_move rfl rfl) ?_
       refine GL_rd (wn_none rfl) rfl (rd_bin rfl rfl rfl (bo_add64 (by omega))) ?_
       refine GL_rd (v := .int _ _) (wn_none rfl) rfl (rd_assign rfl rfl) ?_
       refine GL_nil ?_
       have hp := ((((hp.front 3 rfl).front 3 rfl).front 3 rfl).take 3)
       exact ihL1 (k + 1, _, _, _, _) _ _ (by simp only []; omega) ⟨_, slots6 rfl rfl rfl rfl rfl rfl, hp, by omega, e1⟩
    ·(try simp only [decide_eq_true_eq, decide_eq_false_iff_not, Bool.not_eq_true', Bool.not_eq_false', Bool.not_eq_eq_eq_not, Bool.not_true, Bool.not_false, Int.not_lt, Int.not_le] at hb2)
     obtain rfl : k = (peoL (L.take i)).length := by omega
     have hall := insN_all hst
     refine GW_exit ?_
     refine GW_seq ?_
     refine GW_seq ?_
     refine GW_region ?_
     refine GL_rd (v := .bool _) (wn_none rfl) rfl (rd_move rfl rfl) ?_
     refine GL_rd (wn_none rfl) rfl (rd_not rfl rfl) ?_
     refine GL_nil ?_
     refine GW_cond rfl (fun hb6 => ?_) (fun hb6 => ?_)
     ·(try simp only [decide_eq_true_eq, decide_eq_false_iff_not, Bool.not_eq_true', Bool.not_eq_false', Bool.not_eq_eq_eq_not, Bool.not_true, Bool.not_false, Int.not_lt, Int.not_le] at hb6)
      obtain rfl : p = false := hb6
      replace hall : insW (peoL (L.take i)) (haAt L i).1 = o ++ [(haAt L i).1] := hall
      refine GW_region ?_
      refine GL_rd (v := z) (wn_none rfl) rfl (rd_move rfl rfl) ?_
      refine GL_rd (wn_none rfl) rfl (rd_field rfl rfl fa51_1 _ rfl) ?_
      refine GL_rd (v := .slice _ _ _) (wn_none rfl) rfl (rd_load rfl rfl Try.underlying49 rfl ((cell_of_cells (hp.get 0 rfl) _).trans rfl)) ?_
      refine GL_rd (v := .int .i64 (i : Int)) (wn_none rfl) rfl (rd_move rfl rfl) ?_
      refine GL_rd (wn_none rfl) rfl (rd_indexS (j := i) rfl rfl rfl Try.underlying49 ts128 rfl (by omega) _ rfl) ?_
      refine GL_rd (wn_none rfl) rfl (rd_field rfl rfl fa128_0 _ rfl) ?_
      refine GL_rd (wn_none rfl) rfl (rd_load rfl rfl Try.underlying9 rfl (Sl.haE (hL.keep hp.mod) i (by first | omega | assumption | exact Nat.lt_succ_self _) (ha_who _))) ?_
      refine GL_lit (L := [.string (haAt L i).1]) (wn_none rfl) rfl rfl Try.underlying62 ts9 tz9 rfl (by kernel_rfl) rfl rfl hp ?_
      intro g7 w hp
      refine GL_append (i := 3) (wn_none rfl) rfl rfl rfl rfl Try.underlying62 ti9 rfl (by decide) hp rfl (Sl.row (hp.get 0 rfl)) (one1 rfl) (by first | omega | (simp only [List.length_append, List.length_cons, List.length_nil]; omega)) (by first | omega | (simp only [List.length_append, List.length_cons, List.length_nil]; omega)) ?_
      intro v6 w hp
      rw [stR_snocG] at hp
      refine GL_rd (v := v6) (wn_none rfl) rfl (rd_assign rfl rfl) ?_
      refine GL_nil ?_
      refine GW_region ?_
      refine GL_rd (v := v6) (wn_none rfl) rfl (rd_move rfl rfl) ?_
      refine GL_rd (v := v6) (wn_none rfl) rfl (rd_assign rfl rfl) ?_
      refine GL_nil ?_
      refine GW_region ?_
      refine GL_rd (v := .int .i64 (i : Int)) (wn_none rfl) rfl (rd_move rfl rfl) ?_
      refine GL_rd (wn_none rfl) rfl (rd_bin rfl rfl rfl (bo_add64 (by omega))) ?_
      refine GL_rd (v := .int _ _) (wn_none rfl) rfl (rd_assign rfl rfl) ?_
      refine GL_nil ?_
      rw [← hall, ← peoL_take (by omega)] at hp
      have hp := (((hp.front 3 rfl).front 2 rfl).take 2)
      exact ihL0 (i + 1, _, _) _ _ (by simp only []; omega) ⟨_, slots3 rfl rfl rfl, hp, by omega, hL⟩
     ·(try simp only [decide_eq_true_eq, decide_eq_false_iff_not, Bool.not_eq_true', Bool.not_eq_false', Bool.not_eq_eq_eq_not, Bool.not_true, Bool.not_false, Int.not_lt, Int.not_le] at hb6)
      obtain rfl : p = true := hb6
      replace hall : insW (peoL (L.take i)) (haAt L i).1 = o := hall
      refine GW_skip ?_
      refine GW_region ?_
      refine GL_rd (v := z) (wn_none rfl) rfl (rd_move rfl rfl) ?_
      refine GL_rd (v := z) (wn_none rfl) rfl (rd_assign rfl rfl) ?_
      refine GL_nil ?_
      refine GW_region ?_
      refine GL_rd (v := .int .i64 (i : Int)) (wn_none rfl) rfl (rd_move rfl rfl) ?_
      refine GL_rd (wn_none rfl) rfl (rd_bin rfl rfl rfl (bo_add64 (by omega))) ?_
      refine GL_rd (v := .int _ _) (wn_none rfl) rfl (rd_assign rfl rfl) ?_
      refine GL_nil ?_
      rw [← hall, ← peoL_take (by omega)] at hp
      have hp := (((hp.front 2 rfl).front 1 rfl).take 2)
      exact ihL0 (i + 1, _, _) _ _ (by simp only []; omega) ⟨_, slots3 rfl rfl rfl, hp, by omega, hL⟩
   ·have hp := hp.nilRow 9 1
    have hp := ((((hp.front 0 rfl).front 2 rfl).front 2 rfl).take 3)
    refine ⟨_, slots6 rfl rfl rfl rfl rfl rfl, hp, Nat.zero_le _, rfl⟩
  ·(try simp only [decide_eq_true_eq, decide_eq_false_iff_not, Bool.not_eq_true', Bool.not_eq_false', Bool.not_eq_eq_eq_not, Bool.not_true, Bool.not_false, Int.not_lt, Int.not_le] at hb)
   obtain rfl : i = L.length := by omega
   rw [List.take_length] at hp
   refine GW_exit ?_
   refine GW_seq ?_
   refine GW_region ?_
   refine GL_rd (v := y) (wn_none rfl) rfl (rd_move rfl rfl) ?_
   refine GL_rd (v := y) (wn_none rfl) rfl (rd_assign rfl rfl) ?_
   refine GL_nil ?_
   refine GW_ret ?_
   have hp := ((hp.front 1 rfl).take 1)
   exact ⟨_, res1 Try.results26 (rv_tmp (v := y) rfl rfl), hp⟩
 ·have hp := hp.nilRow 9 1
  have hp := (((hp.front 0 rfl).front 1 rfl).take 2)
  refine ⟨_, slots3 rfl rfl rfl, hp, Nat.zero_le _, hL⟩
set_option maxHeartbeats 1000000 in
theorem ref_gGrant (rv lv : Value) (R : List RO) (L : List HA) (who role : ByteArray) (w0 : World) (hR : Sl w0 rv 2 R.length (R.flatMap roC)) (hL : Sl w0 lv 2 L.length (L.flatMap haC)) (hz : who.size ≤ 65000) (hLb : L.length ≤ 65000) : Does Try.prog 57 #[.agg ⟨[rv, lv]⟩, .string who, .string role] w0 fun v w' => ∃ lv', v = .tuple #[.agg ⟨[rv, lv']⟩, .int .i64 (graK R L who role)] ∧ Renewed w0 w' (.row 128 2 lv (L).length ((L).flatMap haC)) (.row 128 2 lv' ((graX R L who role)).length (((graX R L who role)).flatMap haC)) := by
 obtain ⟨A, c, rfl⟩ := sl_shape hR
 obtain ⟨B, d, rfl⟩ := sl_shape hL
 have hRle := hR.le
 have hLle := hL.le
 refine does_of (l := [.agg ⟨[.slice A R.length c, .slice B L.length d]⟩, .string who, .string role]) Try.func57 (by kernel_rfl) rfl Try.ntmps57 rfl rfl (by kernel_rfl) ?_
 have hp := Hp.refl w0 []
 refine GW_seq ?_
 refine GW_region ?_
 refine GL_box (wn_none rfl) rfl rfl rfl rfl hp ?_
 intro g w hp
 refine GL_alloc (wn_none rfl) rfl rfl tz51 rfl hp ?_
 intro g2 w hp
 refine GL_rd (v := .int _ _) (wn_none rfl) rfl (rd_assign rfl rfl) ?_
 refine GL_nil ?_
 refine GW_seq ?_
 refine GW_seq ?_
 refine GW_region ?_
 refine GL_rd (v := .string _) (wn_none rfl) rfl (rd_move rfl rfl) ?_
 refine GL_call (wn_none rfl) rfl rfl (ref_clName who _ (by omega)) rfl ?_
 rintro _ w ⟨rfl, hk⟩
 have hp := hp.comp hk
 refine GL_rd (v := .int .i64 (nameC who)) (wn_none rfl) rfl (rd_assign rfl rfl) ?_
 refine GL_nil ?_
 refine GW_seq ?_
 refine GW_region ?_
 refine GL_rd (v := .int .i64 (nameC who)) (wn_none rfl) rfl (rd_move rfl rfl) ?_
 refine GL_rd (wn_none rfl) rfl (rd_bin rfl rfl rfl bo_neq) ?_
 refine GL_nil ?_
 refine GW_cond rfl (fun hb => ?_) (fun hb => ?_)
 ·(try simp only [decide_eq_true_eq, decide_eq_false_iff_not, Bool.not_eq_true', Bool.not_eq_false', Bool.not_eq_eq_eq_not, Bool.not_true, Bool.not_false, Int.not_lt, Int.not_le] at hb)
  have hn0 := hb
  refine GW_seq ?_
  refine GW_region ?_
  refine GL_rd (wn_none rfl) rfl (rd_loadC rfl rfl Try.underlying51 rfl ts51 (hp.get 1 rfl) (by first | (rw [bys_length]; first | exact a32_len _) | rfl | simp [bys_length, *])) ?_
  refine GL_rd (v := .int .i64 (nameC who)) (wn_none rfl) rfl (rd_move rfl rfl) ?_
  refine GL_store (i := 0) (wn_none rfl) rfl rfl rfl rfl ts51 rfl rfl (oneC rfl (oneC rfl one0)) hp rfl (by first | exact Nat.le_of_ble_eq_true rfl | simp [bys_length, *]) rfl ?_
  intro w hp
  refine GL_rd (v := .int .i64 (nameC who)) (wn_none rfl) rfl (rd_assign rfl rfl) ?_
  refine GL_nil ?_
  refine GW_ret ?_
  have ed : graK R L who role = nameC who := if_neg hn0
  refine ⟨_, res2 Try.results57 (rv_cell rfl rfl Try.underlying51 rfl ts51 rfl (hp.get 0 rfl)) (rv_tmp (v := .int .i64 (nameC who)) rfl rfl), .slice B L.length d, by rw [ed]; first | done | rfl, .inl ⟨?_, hp.mods⟩⟩
  rw [graX, if_neg (by rw [ed]; exact hn0)]
 ·(try simp only [decide_eq_true_eq, decide_eq_false_iff_not, Bool.not_eq_true', Bool.not_eq_false', Bool.not_eq_eq_eq_not, Bool.not_true, Bool.not_false, Int.not_lt, Int.not_le] at hb)
  have hn0 := hb
  refine GW_skip ?_
  refine GW_seq ?_
  refine GW_seq ?_
  refine GW_region ?_
  refine GL_rd (wn_none rfl) rfl (rd_loadC rfl rfl Try.underlying51 rfl ts51 (hp.get 1 rfl) (by first | (rw [bys_length]; first | exact a32_len _) | rfl | simp [bys_length, *])) ?_
  refine GL_rd (v := .string _) (wn_none rfl) rfl (rd_move rfl rfl) ?_
  refine GL_call (wn_none rfl) rfl rfl (ref_gFind _ _ R L role _ (hR.keep hp.mod) (hL.keep hp.mod)) rfl ?_
  rintro _ w ⟨rfl, hk⟩
  have hp := hp.comp hk
  refine GL_rd (wn_none rfl) rfl (rd_bin rfl rfl rfl bo_lss) ?_
  refine GL_nil ?_
  refine GW_cond rfl (fun hb2 => ?_) (fun hb2 => ?_)
  ·(try simp only [decide_eq_true_eq, decide_eq_false_iff_not, Bool.not_eq_true', Bool.not_eq_false', Bool.not_eq_eq_eq_not, Bool.not_true, Bool.not_false, Int.not_lt, Int.not_le] at hb2)
   have hf := hb2
   refine GW_seq ?_
   refine GW_region ?_
   refine GL_rd (wn_none rfl) rfl (rd_loadC rfl rfl Try.underlying51 rfl ts51 (hp.get 1 rfl) (by first | (rw [bys_length]; first | exact a32_len _) | rfl | simp [bys_length, *])) ?_
   refine GL_store (i := 0) (wn_none rfl) rfl rfl rfl rfl ts51 rfl rfl (oneC rfl (oneC rfl one0)) hp rfl (by first | exact Nat.le_of_ble_eq_true rfl | simp [bys_length, *]) rfl ?_
   intro w hp
   refine GL_rd (v := .int _ _) (wn_none rfl) rfl (rd_assign rfl rfl) ?_
   refine GL_nil ?_
   refine GW_ret ?_
   have ed : graK R L who role = 8 := by rw [graK, if_pos hn0, if_pos hf]
   refine ⟨_, res2 Try.results57 (rv_cell rfl rfl Try.underlying51 rfl ts51 rfl (hp.get 0 rfl)) (rv_tmp (v := .int _ _) rfl rfl), .slice B L.length d, by rw [ed]; first | done | rfl, .inl ⟨?_, hp.mods⟩⟩
   rw [graX, ed, if_neg (by decide)]
  ·(try simp only [decide_eq_true_eq, decide_eq_false_iff_not, Bool.not_eq_true', Bool.not_eq_false', Bool.not_eq_eq_eq_not, Bool.not_true, Bool.not_false, Int.not_lt, Int.not_le] at hb2)
   have hf : ¬ roF R role < 0 := by have := hb2; omega
   refine GW_skip ?_
   refine GW_seq ?_
   refine GW_seq ?_
   refine GW_region ?_
   refine GL_rd (wn_none rfl) rfl (rd_loadC rfl rfl Try.underlying51 rfl ts51 (hp.get 1 rfl) (by first | (rw [bys_length]; first | exact a32_len _) | rfl | simp [bys_length, *])) ?_
   refine GL_rd (v := .string _) (wn_none rfl) rfl (rd_move rfl rfl) ?_
   refine GL_rd (v := .string _) (wn_none rfl) rfl (rd_move rfl rfl) ?_
   refine GL_call (wn_none rfl) rfl rfl (ref_gat _ _ R L who role _ (hR.keep hp.mod) (hL.keep hp.mod)) rfl ?_
   rintro _ w ⟨rfl, hk⟩
   have hp := hp.comp hk
   refine GL_rd (wn_none rfl) rfl (rd_bin rfl rfl rfl bo_geq) ?_
   refine GL_nil ?_
   refine GW_cond rfl (fun hb3 => ?_) (fun hb3 => ?_)
   ·(try simp only [decide_eq_true_eq, decide_eq_false_iff_not, Bool.not_eq_true', Bool.not_eq_false', Bool.not_eq_eq_eq_not, Bool.not_true, Bool.not_false, Int.not_lt, Int.not_le] at hb3)
    have ha := hb3
    refine GW_seq ?_
    refine GW_region ?_
    refine GL_rd (wn_none rfl) rfl (rd_loadC rfl rfl Try.underlying51 rfl ts51 (hp.get 1 rfl) (by first | (rw [bys_length]; first | exact a32_len _) | rfl | simp [bys_length, *])) ?_
    refine GL_store (i := 0) (wn_none rfl) rfl rfl rfl rfl ts51 rfl rfl (oneC rfl (oneC rfl one0)) hp rfl (by first | exact Nat.le_of_ble_eq_true rfl | simp [bys_length, *]) rfl ?_
    intro w hp
    refine GL_rd (v := .int _ _) (wn_none rfl) rfl (rd_assign rfl rfl) ?_
    refine GL_nil ?_
    refine GW_ret ?_
    have ed : graK R L who role = 9 := by rw [graK, if_pos hn0, if_neg hf, if_pos ha]
    refine ⟨_, res2 Try.results57 (rv_cell rfl rfl Try.underlying51 rfl ts51 rfl (hp.get 0 rfl)) (rv_tmp (v := .int _ _) rfl rfl), .slice B L.length d, by rw [ed]; first | done | rfl, .inl ⟨?_, hp.mods⟩⟩
    rw [graX, ed, if_neg (by decide)]
   ·(try simp only [decide_eq_true_eq, decide_eq_false_iff_not, Bool.not_eq_true', Bool.not_eq_false', Bool.not_eq_eq_eq_not, Bool.not_true, Bool.not_false, Int.not_lt, Int.not_le] at hb3)
    have ha : ¬ 0 ≤ haF L who role := by have := hb3; omega
    refine GW_skip ?_
    refine GW_seq ?_
    refine GW_region ?_
    refine GL_rd (v := .bool _) (wn_none rfl) rfl (rd_assign rfl rfl) ?_
    refine GL_nil ?_
    refine GW_seq ?_
    refine GW_seq ?_
    refine GW_region ?_
    refine GL_rd (v := .int _ _) (wn_none rfl) rfl (rd_assign rfl rfl) ?_
    refine GL_nil ?_
    refine GW_block ?_
    refine GW_loop ?_
    refine Lp_ind (α := Nat) (fun a_0 f_0 w' => match a_0 with | i => ∃ fz, f_0 = (upd (upd (upd (upd (upd (upd fz 9 (.bool (knoH L who i))) 10 (.int .i64 (i : Int))) 1 (.string who)) 2 (.string role)) 3 (.pointer (some ⟨g, 0, none⟩))) 6 (.pointer (some ⟨g2, 0, none⟩))) ∧ Hp w0 [] w' [cells g 51 [.slice A R.length c, .slice B L.length d], cells g2 51 [.slice none 0 0, .slice none 0 0]] ∧ (i ≤ L.length)) (fun a_0 => match a_0 with | i => L.length - i) ?_ 0 _ _ ?_
    ·rintro i f wz ⟨fz, rfl, hp, hi0⟩ ihL0
     refine Lp_round ?_
     refine GW_seq ?_
     refine GW_seq ?_
     refine GW_region ?_
     refine GL_rd (v := .int _ _) (wn_none rfl) rfl (rd_move rfl rfl) ?_
     refine GL_rd (wn_none rfl) rfl (rd_field rfl rfl fa51_1 _ rfl) ?_
     refine GL_rd (v := .slice _ _ _) (wn_none rfl) rfl (rd_load rfl rfl Try.underlying49 rfl ((cell_of_cells (hp.get 0 rfl) _).trans rfl)) ?_
     refine GL_rd (wn_none rfl) rfl (rd_len rfl rfl Try.underlying49) ?_
     refine GL_rd (wn_none rfl) rfl (rd_bin rfl rfl rfl bo_lss) ?_
     refine GL_nil ?_
     refine GW_cond rfl (fun hb4 => ?_) (fun hb4 => ?_)
     ·(try simp only [decide_eq_true_eq, decide_eq_false_iff_not, Bool.not_eq_true', Bool.not_eq_false', Bool.not_eq_eq_eq_not, Bool.not_true, Bool.not_false, Int.not_lt, Int.not_le] at hb4)
      obtain ⟨gB, bB, rfl⟩ := hL.addr (by rw [flat_length haC_len]; omega)
      refine GW_skip ?_
      refine GW_seq ?_
      refine GW_block ?_
      refine GW_region ?_
      refine GL_rd (v := .bool _) (wn_none rfl) rfl (rd_move rfl rfl) ?_
      refine GL_rd (v := .bool _) (wn_none rfl) rfl (rd_move rfl rfl) ?_
      refine GL_split (t := 37) (b := _) rfl ?_ ?_
      ·intro hb5; (try simp only [decide_eq_true_eq, decide_eq_false_iff_not, Bool.not_eq_true', Bool.not_eq_false', Bool.not_eq_eq_eq_not, Bool.not_true, Bool.not_false, Int.not_lt, Int.not_le] at hb5)
       have hkn : knoH L who i = true := hb5
       refine GL_pass (nw_off rfl rfl rfl rfl rfl) rfl ?_
       refine GL_pass (nw_off rfl rfl rfl rfl rfl) rfl ?_
       refine GL_pass (nw_off rfl rfl rfl rfl rfl) rfl ?_
       refine GL_pass (nw_off rfl rfl rfl rfl rfl) rfl ?_
       refine GL_pass (nw_off rfl rfl rfl rfl rfl) rfl ?_
       refine GL_pass (nw_off rfl rfl rfl rfl rfl) rfl ?_
       refine GL_pass (nw_off rfl rfl rfl rfl rfl) rfl ?_
       refine GL_pass (nw_off rfl rfl rfl rfl rfl) rfl ?_
       refine GL_rd (v := .bool _) (wn_none rfl) rfl (rd_pickT rfl rfl rfl) ?_
       refine GL_rd (v := .bool _) (wn_none rfl) rfl (rd_assign rfl rfl) ?_
       refine GL_nil ?_
       refine GW_region ?_
       refine GL_rd (v := .int _ _) (wn_none rfl) rfl (rd_move rfl rfl) ?_
       refine GL_rd (wn_none rfl) rfl (rd_bin rfl rfl rfl (bo_add64 (by omega))) ?_
       refine GL_rd (v := .int _ _) (wn_none rfl) rfl (rd_assign rfl rfl) ?_
       refine GL_nil ?_
       have hp := (((hp.front 1 rfl).front 1 rfl).take 2)
       exact ihL0 (i + 1) _ _ (by simp only []; omega) ⟨_, slots6 (by rw [knoH_succ (by omega), hkn]; rfl) rfl rfl rfl rfl rfl, hp, by omega⟩
      ·intro hb5; (try simp only [decide_eq_true_eq, decide_eq_false_iff_not, Bool.not_eq_true', Bool.not_eq_false', Bool.not_eq_eq_eq_not, Bool.not_true, Bool.not_false, Int.not_lt, Int.not_le] at hb5)
       have hkn : knoH L who i = false := hb5
       refine GL_rd (wn_on rfl rfl rfl rfl) rfl (rd_field rfl rfl fa51_1 _ rfl) ?_
       refine GL_rd (v := .slice _ _ _) (wn_on rfl rfl rfl rfl) rfl (rd_load rfl rfl Try.underlying49 rfl ((cell_of_cells (hp.get 0 rfl) _).trans rfl)) ?_
       refine GL_rd (v := .int _ _) (wn_on rfl rfl rfl rfl) rfl (rd_move rfl rfl) ?_
       refine GL_rd (wn_on rfl rfl rfl rfl) rfl (rd_indexS (j := i) rfl rfl rfl Try.underlying49 ts128 rfl (by omega) _ rfl) ?_
       refine GL_rd (wn_on rfl rfl rfl rfl) rfl (rd_field rfl rfl fa128_0 _ rfl) ?_
       refine GL_rd (wn_on rfl rfl rfl rfl) rfl (rd_load rfl rfl Try.underlying9 rfl (Sl.haE (hL.keep hp.mod) i (by first | omega | assumption | exact Nat.lt_succ_self _) (ha_who _))) ?_
       refine GL_rd (v := .string _) (wn_on rfl rfl rfl rfl) rfl (rd_move rfl rfl) ?_
       refine GL_rd (wn_on rfl rfl rfl rfl) rfl (rd_bin rfl rfl rfl bo_seql) ?_
       refine GL_rd (v := .bool _) (wn_none rfl) rfl (rd_pickF rfl rfl rfl) ?_
       refine GL_rd (v := .bool _) (wn_none rfl) rfl (rd_assign rfl rfl) ?_
       refine GL_nil ?_
       refine GW_region ?_
       refine GL_rd (v := .int _ _) (wn_none rfl) rfl (rd_move rfl rfl) ?_
       refine GL_rd (wn_none rfl) rfl (rd_bin rfl rfl rfl (bo_add64 (by omega))) ?_
       refine GL_rd (v := .int _ _) (wn_none rfl) rfl (rd_assign rfl rfl) ?_
       refine GL_nil ?_
       have hp := (((hp.front 1 rfl).front 1 rfl).take 2)
       exact ihL0 (i + 1) _ _ (by simp only []; omega) ⟨_, slots6 (by rw [knoH_succ (by omega), hkn]; rfl) rfl rfl rfl rfl rfl, hp, by omega⟩
     ·(try simp only [decide_eq_true_eq, decide_eq_false_iff_not, Bool.not_eq_true', Bool.not_eq_false', Bool.not_eq_eq_eq_not, Bool.not_true, Bool.not_false, Int.not_lt, Int.not_le] at hb4)
      have hiL : i = L.length := by omega
      refine GW_exit ?_
      refine GW_cut (fun f_0 w' => ∃ (fz : _), f_0 = (upd (upd (upd (upd fz 1 (.string who)) 2 (.string role)) 3 (.pointer (some ⟨g, 0, none⟩))) 6 (.pointer (some ⟨g2, 0, none⟩))) ∧ Hp w0 [] w' [cells g 51 [.slice A R.length c, .slice B L.length d], cells g2 51 [.slice none 0 0, .slice none 0 0]] ∧ (graK R L who role = 0)) ?_ ?_
      ·skip
       refine GW_seq ?_
       refine GW_region ?_
       refine GL_rd (v := .bool _) (wn_none rfl) rfl (rd_move rfl rfl) ?_
       refine GL_rd (wn_none rfl) rfl (rd_not rfl rfl) ?_
       refine GL_rd (v := .bool _) (wn_none rfl) rfl (rd_move rfl rfl) ?_
       refine GL_split (t := 49) (b := _) rfl ?_ ?_
       ·intro hb6; (try simp only [decide_eq_true_eq, decide_eq_false_iff_not, Bool.not_eq_true', Bool.not_eq_false', Bool.not_eq_eq_eq_not, Bool.not_true, Bool.not_false, Int.not_lt, Int.not_le] at hb6)
        have hkn : knoH L who i = false := hb6
        refine GL_rd (wn_on rfl rfl rfl rfl) rfl (rd_loadC rfl rfl Try.underlying51 rfl ts51 (hp.get 0 rfl) (by first | (rw [bys_length]; first | exact a32_len _) | rfl | simp [bys_length, *])) ?_
        refine GL_call (wn_on rfl rfl rfl rfl) rfl rfl (ref_gPeople _ _ R L _ (hR.keep hp.mod) (hL.keep hp.mod) hLb) rfl ?_
        intro va w hk
        have hp := hp.comp hk
        obtain ⟨Aa, ca, rfl⟩ := row_shape (hp.get 0 rfl)
        refine GL_rd (wn_on rfl rfl rfl rfl) rfl (rd_len rfl rfl Try.underlying62) ?_
        refine GL_rd (wn_on rfl rfl rfl rfl) rfl (rd_bin rfl rfl rfl bo_geq) ?_
        refine GL_rd (v := .bool _) (wn_none rfl) rfl (rd_pickT rfl rfl rfl) ?_
        refine GL_nil ?_
        refine GW_cond rfl (fun hb7 => ?_) (fun hb7 => ?_)
        ·(try simp only [decide_eq_true_eq, decide_eq_false_iff_not, Bool.not_eq_true', Bool.not_eq_false', Bool.not_eq_eq_eq_not, Bool.not_true, Bool.not_false, Int.not_lt, Int.not_le] at hb7)
         have hfu : ¬ (∃ j, j < L.length ∧ (haAt L j).1 = who) ∧ 64 ≤ (peoL L).length := ⟨fun q => (by rw [(knoH_all hiL).2 q] at hkn; cases hkn), by have := hb7; omega⟩
         refine GW_seq ?_
         refine GW_region ?_
         refine GL_rd (wn_none rfl) rfl (rd_loadC rfl rfl Try.underlying51 rfl ts51 (hp.get 1 rfl) (by first | (rw [bys_length]; first | exact a32_len _) | rfl | simp [bys_length, *])) ?_
         refine GL_store (i := 2) (wn_none rfl) rfl rfl rfl rfl ts51 rfl rfl (oneC rfl (oneC rfl one0)) hp rfl (by first | exact Nat.le_of_ble_eq_true rfl | simp [bys_length, *]) rfl ?_
         intro w hp
         refine GL_rd (v := .int _ _) (wn_none rfl) rfl (rd_assign rfl rfl) ?_
         refine GL_nil ?_
         refine GW_ret ?_
         have ed : graK R L who role = 7 := by rw [graK, if_pos hn0, if_neg hf, if_neg ha, if_pos hfu]
         refine ⟨_, res2 Try.results57 (rv_cell rfl rfl Try.underlying51 rfl ts51 rfl (hp.get 2 rfl)) (rv_tmp (v := .int _ _) rfl rfl), .slice B L.length d, by rw [ed]; first | done | rfl, .inl ⟨?_, hp.mods⟩⟩
         rw [graX, ed, if_neg (by decide)]
        ·(try simp only [decide_eq_true_eq, decide_eq_false_iff_not, Bool.not_eq_true', Bool.not_eq_false', Bool.not_eq_eq_eq_not, Bool.not_true, Bool.not_false, Int.not_lt, Int.not_le] at hb7)
         have hfu : ¬ (¬ (∃ j, j < L.length ∧ (haAt L j).1 = who) ∧ 64 ≤ (peoL L).length) := fun q => by have := hb7; omega
         refine GW_skip ?_
         have hp := (((hp.front 2 rfl).front 2 rfl).take 2)
         exact ⟨_, slots4 rfl rfl rfl rfl, hp, by rw [graK, if_pos hn0, if_neg hf, if_neg ha, if_neg hfu]⟩
       ·intro hb6; (try simp only [decide_eq_true_eq, decide_eq_false_iff_not, Bool.not_eq_true', Bool.not_eq_false', Bool.not_eq_eq_eq_not, Bool.not_true, Bool.not_false, Int.not_lt, Int.not_le] at hb6)
        have hkn : knoH L who i = true := by simpa using hb6
        have hfu : ¬ (¬ (∃ j, j < L.length ∧ (haAt L j).1 = who) ∧ 64 ≤ (peoL L).length) := fun q => q.1 ((knoH_all hiL).1 hkn)
        refine GL_pass (nw_off rfl rfl rfl rfl rfl) rfl ?_
        refine GL_pass (nw_off rfl rfl rfl rfl rfl) rfl ?_
        refine GL_pass (nw_off rfl rfl rfl rfl rfl) rfl ?_
        refine GL_pass (nw_off rfl rfl rfl rfl rfl) rfl ?_
        refine GL_rd (v := .bool _) (wn_none rfl) rfl (rd_pickF rfl rfl rfl) ?_
        refine GL_nil ?_
        refine GW_false rfl ?_
        refine GW_skip ?_
        have hp := (((hp.front 1 rfl).front 1 rfl).take 2)
        exact ⟨_, slots4 rfl rfl rfl rfl, hp, by rw [graK, if_pos hn0, if_neg hf, if_neg ha, if_neg hfu]⟩
      ·rintro f w ⟨fz, rfl, hp, ed⟩
       refine GW_seq ?_
       refine GW_region ?_
       refine GL_rd (wn_none rfl) rfl (rd_field rfl rfl fa51_0 _ rfl) ?_
       refine GL_rd (v := .slice _ _ _) (wn_none rfl) rfl (rd_load rfl rfl Try.underlying48 rfl ((cell_of_cells (hp.get 0 rfl) _).trans rfl)) ?_
       refine GL_rd (wn_none rfl) rfl (rd_buildS (L := [.slice A R.length c, .slice none 0 0]) rfl tz51 pl51 (by kernel_rfl)) ?_
       refine GL_alloc (wn_none rfl) rfl rfl tz51 rfl hp ?_
       intro g3 w hp
       refine GL_store (i := 0) (wn_none rfl) rfl rfl rfl rfl ts51 rfl rfl (oneC rfl (oneC rfl one0)) hp rfl (by first | exact Nat.le_of_ble_eq_true rfl | simp [bys_length, *]) rfl ?_
       intro w hp
       refine GL_nil ?_
       refine GW_seq ?_
       refine GW_region ?_
       refine GL_rd (wn_none rfl) rfl (rd_field rfl rfl fa51_1 _ rfl) ?_
       refine GL_rd (v := .slice _ _ _) (wn_none rfl) rfl (rd_load rfl rfl Try.underlying49 rfl ((cell_of_cells (hp.get 0 rfl) _).trans rfl)) ?_
       refine GL_rd (wn_none rfl) rfl (rd_field rfl rfl fa51_1 _ rfl) ?_
       refine GL_rd (v := .slice _ _ _) (wn_none rfl) rfl (rd_load rfl rfl Try.underlying49 rfl ((cell_of_cells (hp.get 1 rfl) _).trans rfl)) ?_
       have hp := hp.nilRow 128 2
       refine GL_append (i := 0) (wn_none rfl) rfl rfl rfl rfl Try.underlying49 ti128 rfl (by decide) hp rfl (hL.keep hp.mod) (flat_oneE haC_one L) (by omega) (by omega) ?_
       intro v w hp
       rw [List.nil_append, Nat.zero_add] at hp
       obtain ⟨Av, cv, rfl⟩ := row_shape (hp.get 0 rfl)
       refine GL_rd (wn_none rfl) rfl (rd_field rfl rfl fa51_1 _ rfl) ?_
       refine GL_store (i := 1) (wn_none rfl) rfl rfl rfl rfl ts49 rfl rfl (one1 rfl) hp rfl (by first | exact Nat.le_of_ble_eq_true rfl | simp [bys_length, *]) rfl ?_
       intro w hp
       refine GL_nil ?_
       refine GW_seq ?_
       refine GW_region ?_
       refine GL_rd (wn_none rfl) rfl (rd_field rfl rfl fa51_1 _ rfl) ?_
       refine GL_rd (v := .slice _ _ _) (wn_none rfl) rfl (rd_load rfl rfl Try.underlying49 rfl ((cell_of_cells (hp.get 1 rfl) _).trans rfl)) ?_
       refine GL_rd (v := .string _) (wn_none rfl) rfl (rd_move rfl rfl) ?_
       refine GL_rd (v := .string _) (wn_none rfl) rfl (rd_move rfl rfl) ?_
       refine GL_rd (wn_none rfl) rfl (rd_buildS (L := [.string who, .string role]) rfl tz128 pl128 (by kernel_rfl)) ?_
       refine GL_lit1 (L := (haC (who, role))) (wn_none rfl) rfl rfl rfl rfl Try.underlying49 ts128 tz128 (by kernel_rfl) rfl hp ?_
       intro g4 w hp
       refine GL_append (i := 1) (wn_none rfl) rfl rfl rfl rfl Try.underlying49 ti128 rfl (by decide) hp rfl (Sl.row (hp.get 0 rfl)) (haC_one _) (by omega) (by omega) ?_
       intro v2 w hp
       obtain ⟨Av2, cv2, rfl⟩ := row_shape (hp.get 1 rfl)
       rw [haR_snoc] at hp
       refine GL_rd (wn_none rfl) rfl (rd_field rfl rfl fa51_1 _ rfl) ?_
       refine GL_store (i := 2) (wn_none rfl) rfl rfl rfl rfl ts49 rfl rfl (one1 rfl) hp rfl (by first | exact Nat.le_of_ble_eq_true rfl | simp [bys_length, *]) rfl ?_
       intro w hp
       refine GL_nil ?_
       refine GW_seq ?_
       refine GW_region ?_
       refine GL_rd (wn_none rfl) rfl (rd_loadC rfl rfl Try.underlying51 rfl ts51 (hp.get 2 rfl) (by first | (rw [bys_length]; first | exact a32_len _) | rfl | simp [bys_length, *])) ?_
       refine GL_store (i := 4) (wn_none rfl) rfl rfl rfl rfl ts51 rfl rfl (oneC rfl (oneC rfl one0)) hp rfl (by first | exact Nat.le_of_ble_eq_true rfl | simp [bys_length, *]) rfl ?_
       intro w hp
       refine GL_rd (v := .int _ _) (wn_none rfl) rfl (rd_assign rfl rfl) ?_
       refine GL_nil ?_
       refine GW_ret ?_
       have ex : graX R L who role = L ++ [(who, role)] := if_pos ed
       refine ⟨_, res2 Try.results57 (rv_cell rfl rfl Try.underlying51 rfl ts51 rfl (hp.get 4 rfl)) (rv_tmp (v := .int _ _) rfl rfl), (.slice Av2 _ cv2), by rw [ed]; first | done | rfl, .inr ?_⟩
       rw [ex]
       have hp := ((hp.front 1 rfl).take 1)
       exact hp
    ·have hp := (((hp.front 0 rfl).front 1 rfl).take 2)
     refine ⟨_, slots6 rfl rfl rfl rfl rfl rfl, hp, Nat.zero_le _⟩
set_option maxHeartbeats 1000000 in
theorem ref_gRevoke (rv lv : Value) (R : List RO) (L : List HA) (who role : ByteArray) (w0 : World) (hR : Sl w0 rv 2 R.length (R.flatMap roC)) (hL : Sl w0 lv 2 L.length (L.flatMap haC)) (hLb : L.length ≤ 65000) : Does Try.prog 58 #[.agg ⟨[rv, lv]⟩, .string who, .string role] w0 fun v w' => ∃ lv', v = .tuple #[.agg ⟨[rv, lv']⟩, .int .i64 (revK L who role)] ∧ Renewed w0 w' (.row 128 2 lv (L).length ((L).flatMap haC)) (.row 128 2 lv' ((revX L who role)).length (((revX L who role)).flatMap haC)) := by
 obtain ⟨A, c, rfl⟩ := sl_shape hR
 obtain ⟨B, d, rfl⟩ := sl_shape hL
 have hRle := hR.le
 have hLle := hL.le
 refine does_of (l := [.agg ⟨[.slice A R.length c, .slice B L.length d]⟩, .string who, .string role]) Try.func58 (by kernel_rfl) rfl Try.ntmps58 rfl rfl (by kernel_rfl) ?_
 have hp := Hp.refl w0 []
 refine GW_seq ?_
 refine GW_region ?_
 refine GL_box (wn_none rfl) rfl rfl rfl rfl hp ?_
 intro g w hp
 refine GL_alloc (wn_none rfl) rfl rfl tz51 rfl hp ?_
 intro g2 w hp
 refine GL_rd (v := .int _ _) (wn_none rfl) rfl (rd_assign rfl rfl) ?_
 refine GL_nil ?_
 refine GW_seq ?_
 refine GW_region ?_
 refine GL_rd (wn_none rfl) rfl (rd_loadC rfl rfl Try.underlying51 rfl ts51 (hp.get 1 rfl) (by first | (rw [bys_length]; first | exact a32_len _) | rfl | simp [bys_length, *])) ?_
 refine GL_rd (v := .string _) (wn_none rfl) rfl (rd_move rfl rfl) ?_
 refine GL_rd (v := .string _) (wn_none rfl) rfl (rd_move rfl rfl) ?_
 refine GL_call (wn_none rfl) rfl rfl (ref_gat _ _ R L who role _ (hR.keep hp.mod) (hL.keep hp.mod)) rfl ?_
 rintro _ w ⟨rfl, hk⟩
 have hp := hp.comp hk
 refine GL_rd (v := .int .i64 (haF L who role)) (wn_none rfl) rfl (rd_assign rfl rfl) ?_
 refine GL_nil ?_
 refine GW_seq ?_
 refine GW_seq ?_
 refine GW_region ?_
 refine GL_rd (v := .int .i64 (haF L who role)) (wn_none rfl) rfl (rd_move rfl rfl) ?_
 refine GL_rd (wn_none rfl) rfl (rd_bin rfl rfl rfl bo_lss) ?_
 refine GL_nil ?_
 refine GW_cond rfl (fun hb => ?_) (fun hb => ?_)
 ·(try simp only [decide_eq_true_eq, decide_eq_false_iff_not, Bool.not_eq_true', Bool.not_eq_false', Bool.not_eq_eq_eq_not, Bool.not_true, Bool.not_false, Int.not_lt, Int.not_le] at hb)
  have hn := hb
  refine GW_seq ?_
  refine GW_region ?_
  refine GL_rd (wn_none rfl) rfl (rd_loadC rfl rfl Try.underlying51 rfl ts51 (hp.get 1 rfl) (by first | (rw [bys_length]; first | exact a32_len _) | rfl | simp [bys_length, *])) ?_
  refine GL_store (i := 0) (wn_none rfl) rfl rfl rfl rfl ts51 rfl rfl (oneC rfl (oneC rfl one0)) hp rfl (by first | exact Nat.le_of_ble_eq_true rfl | simp [bys_length, *]) rfl ?_
  intro w hp
  refine GL_rd (v := .int _ _) (wn_none rfl) rfl (rd_assign rfl rfl) ?_
  refine GL_nil ?_
  refine GW_ret ?_
  have ed : revK L who role = 8 := if_pos hn
  refine ⟨_, res2 Try.results58 (rv_cell rfl rfl Try.underlying51 rfl ts51 rfl (hp.get 0 rfl)) (rv_tmp (v := .int _ _) rfl rfl), .slice B L.length d, by rw [ed]; first | done | rfl, .inl ⟨?_, hp.mods⟩⟩
  rw [revX, if_pos hn]
 ·(try simp only [decide_eq_true_eq, decide_eq_false_iff_not, Bool.not_eq_true', Bool.not_eq_false', Bool.not_eq_eq_eq_not, Bool.not_true, Bool.not_false, Int.not_lt, Int.not_le] at hb)
  have hn : ¬ haF L who role < 0 := by have := hb; omega
  obtain ⟨k, hk⟩ : ∃ k : Nat, haF L who role = (k : Int) := ⟨(haF L who role).toNat, by omega⟩
  refine GW_skip ?_
  refine GW_seq ?_
  refine GW_region ?_
  refine GL_rd (wn_none rfl) rfl (rd_field rfl rfl fa51_0 _ rfl) ?_
  refine GL_rd (v := .slice _ _ _) (wn_none rfl) rfl (rd_load rfl rfl Try.underlying48 rfl ((cell_of_cells (hp.get 1 rfl) _).trans rfl)) ?_
  refine GL_rd (wn_none rfl) rfl (rd_buildS (L := [.slice A R.length c, .slice none 0 0]) rfl tz51 pl51 (by kernel_rfl)) ?_
  refine GL_alloc (wn_none rfl) rfl rfl tz51 rfl hp ?_
  intro g3 w hp
  refine GL_store (i := 0) (wn_none rfl) rfl rfl rfl rfl ts51 rfl rfl (oneC rfl (oneC rfl one0)) hp rfl (by first | exact Nat.le_of_ble_eq_true rfl | simp [bys_length, *]) rfl ?_
  intro w hp
  refine GL_nil ?_
  refine GW_seq ?_
  refine GW_seq ?_
  refine GW_region ?_
  refine GL_rd (v := .int _ _) (wn_none rfl) rfl (rd_assign rfl rfl) ?_
  refine GL_nil ?_
  refine GW_block ?_
  refine GW_loop ?_
  refine Lp_ind (α := Nat × Value × Option Addr) (fun a_0 f_0 w' => match a_0 with | (i, y, B) => ∃ fz, f_0 = (upd (upd (upd (upd (upd fz 10 (.int .i64 (i : Int))) 3 (.pointer (some ⟨g, 0, none⟩))) 6 (.pointer (some ⟨g2, 0, none⟩))) 8 (.int .i64 (haF L who role))) 9 (.pointer (some ⟨g3, 0, none⟩))) ∧ Hp w0 [] w' [cells g 51 [.slice A R.length c, .slice B L.length d], cells g2 51 [.slice none 0 0, .slice none 0 0], cells g3 51 [.slice A R.length c, y], .row 128 2 y ((eraI L k i)).length (((eraI L k i)).flatMap haC)] ∧ (i ≤ L.length) ∧ (Sl w0 (.slice B L.length d) 2 L.length (L.flatMap haC))) (fun a_0 => match a_0 with | (i, y, B) => L.length - i) ?_ (0, .slice none 0 0, B) _ _ ?_
  ·rintro ⟨i, y, B⟩ f wz ⟨fz, rfl, hp, hi0, hL⟩ ihL0
   have hel := eraI_len L k i
   refine Lp_round ?_
   refine GW_seq ?_
   refine GW_seq ?_
   refine GW_region ?_
   refine GL_rd (v := .int _ _) (wn_none rfl) rfl (rd_move rfl rfl) ?_
   refine GL_rd (wn_none rfl) rfl (rd_field rfl rfl fa51_1 _ rfl) ?_
   refine GL_rd (v := .slice _ _ _) (wn_none rfl) rfl (rd_load rfl rfl Try.underlying49 rfl ((cell_of_cells (hp.get 0 rfl) _).trans rfl)) ?_
   refine GL_rd (wn_none rfl) rfl (rd_len rfl rfl Try.underlying49) ?_
   refine GL_rd (wn_none rfl) rfl (rd_bin rfl rfl rfl bo_lss) ?_
   refine GL_nil ?_
   refine GW_cond rfl (fun hb2 => ?_) (fun hb2 => ?_)
   ·(try simp only [decide_eq_true_eq, decide_eq_false_iff_not, Bool.not_eq_true', Bool.not_eq_false', Bool.not_eq_eq_eq_not, Bool.not_true, Bool.not_false, Int.not_lt, Int.not_le] at hb2)
    obtain ⟨gB, bB, rfl⟩ := hL.addr (by rw [flat_length haC_len]; omega)
    refine GW_skip ?_
    refine GW_seq ?_
    refine GW_block ?_
    refine GW_seq ?_
    refine GW_region ?_
    refine GL_rd (v := .int _ _) (wn_none rfl) rfl (rd_move rfl rfl) ?_
    refine GL_rd (v := .int .i64 (haF L who role)) (wn_none rfl) rfl (rd_move rfl rfl) ?_
    refine GL_rd (wn_none rfl) rfl (rd_bin rfl rfl rfl bo_neq) ?_
    refine GL_nil ?_
    refine GW_cond rfl (fun hb3 => ?_) (fun hb3 => ?_)
    ·(try simp only [decide_eq_true_eq, decide_eq_false_iff_not, Bool.not_eq_true', Bool.not_eq_false', Bool.not_eq_eq_eq_not, Bool.not_true, Bool.not_false, Int.not_lt, Int.not_le] at hb3)
     have e1 := eraI_ne (L := L) (k := k) (i := i) (by omega) (fun q => hb3 (by rw [hk, q]))
     refine GW_drawnK 10 (.one 0 true (.one 1 true (.one 2 true (.one 3 true (.one 4 true (.one 5 true (.one 6 true (.one 7 false (.one 8 false (.one 9 true (.one 10 false .nil))))))))))) mixed (by kernel_rfl) hp (fun _ h => (h.sub (.cons_cons _ (.cons _ (.cons_cons _ (.cons _ .slnil)))))) fun w hp => ?_
     have hpS := (hp.sub (.cons_cons _ (.cons _ (.cons_cons _ (.cons _ .slnil)))))
     refine GO_rdT rfl (wn_none rfl) rfl (fun w => (rd_field rfl rfl fa51_1 _ rfl)) ?_
     refine GO_rd rfl rfl (wn_none rfl) rfl hpS (fun w hp => (rd_load rfl rfl Try.underlying49 rfl ((cell_of_cells (hp.get 1 rfl) _).trans rfl))) ?_
     refine GO_rdT rfl (wn_none rfl) rfl (fun w => (rd_field rfl rfl fa51_1 _ rfl)) ?_
     refine GO_rd (v := .slice _ _ _) rfl rfl (wn_none rfl) rfl hpS (fun w hp => (rd_load rfl rfl Try.underlying49 rfl ((cell_of_cells (hp.get 0 rfl) _).trans rfl))) ?_
     refine GO_rdT (v := .int _ _) rfl (wn_none rfl) rfl (fun w => (rd_move rfl rfl)) ?_
     refine GO_rdT rfl (wn_none rfl) rfl (fun w => (rd_indexS (j := i) rfl rfl rfl Try.underlying49 ts128 rfl (by omega) _ rfl)) ?_
     refine GO_rd rfl rfl (wn_none rfl) rfl hpS (fun w hp => (rd_loadN (L := haC _) rfl rfl Try.underlying128 rfl ts128 (haC_len _) (fun jq u hj => Sl.haE (hL.keep hp.mod) i (by first | omega | assumption | exact Nat.lt_succ_self _) hj))) ?_
     refine GO_of_GL rfl ?_
     refine GL_lit1 (L := (haC (haAt L i))) (wn_none rfl) rfl rfl rfl rfl Try.underlying49 ts128 tz128 (by kernel_rfl) rfl hp ?_
     intro g4 w hp
     have hpS2 := (hp.sub (.cons _ (.cons_cons _ (.cons _ (.cons_cons _ (.cons _ .slnil))))))
     refine GL_nil ⟨fun _ => hpS2, ?_⟩
     refine GO_of_GL rfl ?_
     refine GL_append (i := 4) (wn_none rfl) rfl rfl rfl rfl Try.underlying49 ti128 rfl (by decide) hp rfl (Sl.row (hp.get 0 rfl)) (haC_one _) (by omega) (by omega) ?_
     intro v w hp
     obtain ⟨Av, cv, rfl⟩ := row_shape (hp.get 4 rfl)
     rw [haR_snoc, ← e1] at hp
     have hpS3 := (hp.sub (.cons _ (.cons_cons _ (.cons _ (.cons_cons _ (.cons _ .slnil))))))
     refine GL_nil ⟨fun _ => hpS3, ?_⟩
     refine GO_rdT rfl (wn_none rfl) rfl (fun w => (rd_field rfl rfl fa51_1 _ rfl)) ?_
     refine GO_of_GL rfl ?_
     refine GL_store (i := 3) (wn_none rfl) rfl rfl rfl rfl ts49 rfl rfl (one1 rfl) hp rfl (by first | exact Nat.le_of_ble_eq_true rfl | simp [bys_length, *]) rfl ?_
     intro w hp
     refine GL_nil ⟨fun h => absurd h (by decide), ?_⟩
     refine GO_nil ?_
     refine GW_region ?_
     refine GL_rd (v := .int _ _) (wn_none rfl) rfl (rd_move rfl rfl) ?_
     refine GL_rd (wn_none rfl) rfl (rd_bin rfl rfl rfl (bo_add64 (by omega))) ?_
     refine GL_rd (v := .int _ _) (wn_none rfl) rfl (rd_assign rfl rfl) ?_
     refine GL_nil ?_
     have hp := (((((hp.front 4 rfl).front 4 rfl).front 4 rfl).front 4 rfl).take 4)
     exact ihL0 (i + 1, _, _) _ _ (by simp only []; omega) ⟨_, slots5 rfl rfl rfl rfl rfl, hp, by omega, hL⟩
    ·(try simp only [decide_eq_true_eq, decide_eq_false_iff_not, Bool.not_eq_true', Bool.not_eq_false', Bool.not_eq_eq_eq_not, Bool.not_true, Bool.not_false, Int.not_lt, Int.not_le] at hb3)
     have e1 := eraI_eq (L := L) (k := k) (i := i) (by omega) (by have := hb3; omega)
     refine GW_skip ?_
     refine GW_region ?_
     refine GL_rd (v := .int _ _) (wn_none rfl) rfl (rd_move rfl rfl) ?_
     refine GL_rd (wn_none rfl) rfl (rd_bin rfl rfl rfl (bo_add64 (by omega))) ?_
     refine GL_rd (v := .int _ _) (wn_none rfl) rfl (rd_assign rfl rfl) ?_
     refine GL_nil ?_
     rw [← e1] at hp
     have hp := (((((hp.front 3 rfl).front 3 rfl).front 3 rfl).front 3 rfl).take 4)
     exact ihL0 (i + 1, _, _) _ _ (by simp only []; omega) ⟨_, slots5 rfl rfl rfl rfl rfl, hp, by omega, hL⟩
   ·(try simp only [decide_eq_true_eq, decide_eq_false_iff_not, Bool.not_eq_true', Bool.not_eq_false', Bool.not_eq_eq_eq_not, Bool.not_true, Bool.not_false, Int.not_lt, Int.not_le] at hb2)
    obtain rfl : i = L.length := by omega
    obtain ⟨Ay, cy, rfl⟩ := row_shape (hp.get 3 rfl)
    rw [eraI_all] at hp
    refine GW_exit ?_
    refine GW_seq ?_
    refine GW_region ?_
    refine GL_rd (wn_none rfl) rfl (rd_loadC rfl rfl Try.underlying51 rfl ts51 (hp.get 2 rfl) (by first | (rw [bys_length]; first | exact a32_len _) | rfl | simp [bys_length, *])) ?_
    refine GL_store (i := 1) (wn_none rfl) rfl rfl rfl rfl ts51 rfl rfl (oneC rfl (oneC rfl one0)) hp rfl (by first | exact Nat.le_of_ble_eq_true rfl | simp [bys_length, *]) rfl ?_
    intro w hp
    refine GL_rd (v := .int _ _) (wn_none rfl) rfl (rd_assign rfl rfl) ?_
    refine GL_nil ?_
    refine GW_ret ?_
    have ed : revK L who role = 0 := if_neg hn
    have ex : revX L who role = eraH L k := by rw [revX, if_neg hn, hk, Int.toNat_natCast]
    refine ⟨_, res2 Try.results58 (rv_cell rfl rfl Try.underlying51 rfl ts51 rfl (hp.get 1 rfl)) (rv_tmp (v := .int _ _) rfl rfl), .slice Ay _ cy, by rw [ed]; first | done | rfl, .inr ?_⟩
    rw [ex]
    have hp := ((hp.front 3 rfl).take 1)
    exact hp
  ·have hp := hp.nilRow 128 2
   have hp := (((((hp.front 0 rfl).front 1 rfl).front 2 rfl).front 3 rfl).take 4)
   refine ⟨_, slots5 rfl rfl rfl rfl rfl, hp, Nat.zero_le _, hL⟩
set_option maxHeartbeats 1000000 in
theorem ref_gMay (rv lv : Value) (R : List RO) (L : List HA) (who : ByteArray) (op : Int) (w0 : World) (hR : Sl w0 rv 2 R.length (R.flatMap roC)) (hL : Sl w0 lv 2 L.length (L.flatMap haC)) (hRo : okRo w0 R) (hin : ∀ h ∈ L, h.2 ∈ R.map (·.1)) : Does Try.prog 23 #[.agg ⟨[rv, lv]⟩, .string who, .int .i64 op] w0 fun v w' => v = .bool (mayR R L who op) ∧ Hp w0 [] w' [] := by
 obtain ⟨A, c, rfl⟩ := sl_shape hR
 obtain ⟨B, d, rfl⟩ := sl_shape hL
 have hRle := hR.le
 have hLle := hL.le
 refine does_of (l := [.agg ⟨[.slice A R.length c, .slice B L.length d]⟩, .string who, .int .i64 op]) Try.func23 (by kernel_rfl) rfl Try.ntmps23 rfl rfl (by kernel_rfl) ?_
 have hp := Hp.refl w0 []
 refine GW_seq ?_
 refine GW_region ?_
 refine GL_box (wn_none rfl) rfl rfl rfl rfl hp ?_
 intro g w hp
 refine GL_rd (v := .bool _) (wn_none rfl) rfl (rd_assign rfl rfl) ?_
 refine GL_nil ?_
 refine GW_seq ?_
 refine GW_seq ?_
 refine GW_region ?_
 refine GL_rd (v := .int _ _) (wn_none rfl) rfl (rd_assign rfl rfl) ?_
 refine GL_nil ?_
 refine GW_block ?_
 refine GW_loop ?_
 refine Lp_ind (α := Nat × Option Addr × Option Addr) (fun a_0 f_0 w' => match a_0 with | (i, A, B) => ∃ fz, f_0 = (upd (upd (upd (upd fz 7 (.int .i64 (i : Int))) 1 (.string who)) 2 (.int .i64 op)) 3 (.pointer (some ⟨g, 0, none⟩))) ∧ Hp w0 [] w' [cells g 51 [.slice A R.length c, .slice B L.length d]] ∧ (i ≤ L.length) ∧ (Sl w0 (.slice A R.length c) 2 R.length (R.flatMap roC)) ∧ (Sl w0 (.slice B L.length d) 2 L.length (L.flatMap haC)) ∧ (∀ j, j < i → ¬ hitM R who op (haAt L j))) (fun a_0 => match a_0 with | (i, A, B) => L.length - i) ?_ (0, A, B) _ _ ?_
 ·rintro ⟨i, A, B⟩ f wz ⟨fz, rfl, hp, hi0, hR, hL, hok⟩ ihL0
  refine Lp_round ?_
  refine GW_seq ?_
  refine GW_seq ?_
  refine GW_region ?_
  refine GL_rd (v := .int .i64 (i : Int)) (wn_none rfl) rfl (rd_move rfl rfl) ?_
  refine GL_rd (wn_none rfl) rfl (rd_field rfl rfl fa51_1 _ rfl) ?_
  refine GL_rd (v := .slice _ _ _) (wn_none rfl) rfl (rd_load rfl rfl Try.underlying49 rfl ((cell_of_cells (hp.get 0 rfl) _).trans rfl)) ?_
  refine GL_rd (wn_none rfl) rfl (rd_len rfl rfl Try.underlying49) ?_
  refine GL_rd (wn_none rfl) rfl (rd_bin rfl rfl rfl bo_lss) ?_
  refine GL_nil ?_
  refine GW_cond rfl (fun hb => ?_) (fun hb => ?_)
  ·(try simp only [decide_eq_true_eq, decide_eq_false_iff_not, Bool.not_eq_true', Bool.not_eq_false', Bool.not_eq_eq_eq_not, Bool.not_true, Bool.not_false, Int.not_lt, Int.not_le] at hb)
   obtain ⟨gB, bB, rfl⟩ := hL.addr (by rw [flat_length haC_len]; omega)
   refine GW_skip ?_
   refine GW_seq ?_
   refine GW_block ?_
   refine GW_seq ?_
   refine GW_seq ?_
   refine GW_region ?_
   refine GL_rd (wn_none rfl) rfl (rd_field rfl rfl fa51_1 _ rfl) ?_
   refine GL_rd (v := .slice _ _ _) (wn_none rfl) rfl (rd_load rfl rfl Try.underlying49 rfl ((cell_of_cells (hp.get 0 rfl) _).trans rfl)) ?_
   refine GL_rd (v := .int .i64 (i : Int)) (wn_none rfl) rfl (rd_move rfl rfl) ?_
   refine GL_rd (wn_none rfl) rfl (rd_indexS (j := i) rfl rfl rfl Try.underlying49 ts128 rfl (by omega) _ rfl) ?_
   refine GL_rd (wn_none rfl) rfl (rd_field rfl rfl fa128_0 _ rfl) ?_
   refine GL_rd (wn_none rfl) rfl (rd_load rfl rfl Try.underlying9 rfl (Sl.haE (hL.keep hp.mod) i (by first | omega | assumption | exact Nat.lt_succ_self _) (ha_who _))) ?_
   refine GL_rd (v := .string _) (wn_none rfl) rfl (rd_move rfl rfl) ?_
   refine GL_rd (wn_none rfl) rfl (rd_bin rfl rfl rfl bo_sneq) ?_
   refine GL_nil ?_
   refine GW_cond rfl (fun hb2 => ?_) (fun hb2 => ?_)
   ·(try simp only [decide_eq_true_eq, decide_eq_false_iff_not, Bool.not_eq_true', Bool.not_eq_false', Bool.not_eq_eq_eq_not, Bool.not_true, Bool.not_false, Int.not_lt, Int.not_le] at hb2)
    have hnm : ¬ hitM R who op (haAt L i) := fun q => hb2 q.1
    refine GW_exit ?_
    refine GW_region ?_
    refine GL_rd (v := .int .i64 (i : Int)) (wn_none rfl) rfl (rd_move rfl rfl) ?_
    refine GL_rd (wn_none rfl) rfl (rd_bin rfl rfl rfl (bo_add64 (by omega))) ?_
    refine GL_rd (v := .int _ _) (wn_none rfl) rfl (rd_assign rfl rfl) ?_
    refine GL_nil ?_
    have hp := ((hp.front 0 rfl).take 1)
    exact ihL0 (i + 1, _, _) _ _ (by simp only []; omega) ⟨_, slots4 rfl rfl rfl rfl, hp, by omega, hR, hL, fun j hj => by rcases Nat.lt_succ_iff_lt_or_eq.1 hj with h | h; exact hok j h; subst h; exact hnm⟩
   ·(try simp only [decide_eq_true_eq, decide_eq_false_iff_not, Bool.not_eq_true', Bool.not_eq_false', Bool.not_eq_eq_eq_not, Bool.not_true, Bool.not_false, Int.not_lt, Int.not_le] at hb2)
    have hwho := hb2
    obtain ⟨fi, hfi, hfe, _⟩ := roF_ge (hin _ (haAt_mem (i := i) (by omega)))
    obtain ⟨Ao, co, hoe⟩ := sl_shape (hRo _ (roAt_mem hfi))
    have ho := hRo _ (roAt_mem hfi)
    rw [hoe] at ho
    obtain ⟨gA, bA, rfl⟩ := hR.addr (by rw [flat_length roC_len]; omega)
    have hole := ho.le
    refine GW_skip ?_
    refine GW_cut (fun f_0 w' => ∃ (g2 : Nat) (fz : _), f_0 = (upd (upd (upd (upd (upd fz 8 (.pointer (some ⟨g2, 0, none⟩))) 1 (.string who)) 2 (.int .i64 op)) 3 (.pointer (some ⟨g, 0, none⟩))) 7 (.int .i64 (i : Int))) ∧ Hp w0 [] w' [cells g 51 [.slice (some ⟨gA, bA, none⟩) R.length c, .slice (some ⟨gB, bB, none⟩) L.length d], cells g2 61 (roC (roAt R fi))]) ?_ ?_
    ·skip
     refine GW_drawnK 13 (.one 0 true (.one 1 true (.one 2 true (.one 3 true (.one 4 true (.one 5 true (.one 6 true (.one 7 true (.one 8 true (.two 9 12 (.one 10 true (.one 11 true (.one 12 false (.one 13 false .nil)))) (.one 9 false (.one 10 true (.one 11 true (.one 13 false .nil)))))))))))))) mixed (by kernel_rfl) hp (fun _ h => h) fun w hp => ?_
     have hpS := hp
     refine GO_rdT rfl (wn_none rfl) rfl (fun w => (rd_field rfl rfl fa51_0 _ rfl)) ?_
     refine GO_rd (v := .slice _ _ _) rfl rfl (wn_none rfl) rfl hpS (fun w hp => (rd_load rfl rfl Try.underlying48 rfl ((cell_of_cells (hp.get 0 rfl) _).trans rfl))) ?_
     refine GO_rd rfl rfl (wn_none rfl) rfl hpS (fun w hp => (rd_loadC rfl rfl Try.underlying51 rfl ts51 (hp.get 0 rfl) (by first | (rw [bys_length]; first | exact a32_len _) | rfl | simp [bys_length, *]))) ?_
     refine GO_rdT rfl (wn_none rfl) rfl (fun w => (rd_field rfl rfl fa51_1 _ rfl)) ?_
     refine GO_rd (v := .slice _ _ _) rfl rfl (wn_none rfl) rfl hpS (fun w hp => (rd_load rfl rfl Try.underlying49 rfl ((cell_of_cells (hp.get 0 rfl) _).trans rfl))) ?_
     refine GO_rdT (v := .int .i64 (i : Int)) rfl (wn_none rfl) rfl (fun w => (rd_move rfl rfl)) ?_
     refine GO_rdT rfl (wn_none rfl) rfl (fun w => (rd_indexS (j := i) rfl rfl rfl Try.underlying49 ts128 rfl (by omega) _ rfl)) ?_
     refine GO_rdT rfl (wn_none rfl) rfl (fun w => (rd_field rfl rfl fa128_1 _ rfl)) ?_
     refine GO_rd rfl rfl (wn_none rfl) rfl hpS (fun w hp => (rd_load rfl rfl Try.underlying9 rfl (Sl.haE (hL.keep hp.mod) i (by first | omega | assumption | exact Nat.lt_succ_self _) (ha_role _)))) ?_
     refine GO_two rfl rfl ?_ ?_
     ·skip
      refine GC_of_GL ?_
      refine GL_call (wn_none rfl) rfl rfl (ref_gFind _ _ R L (haAt L i).2 _ (hR.keep hp.mod) (hL.keep hp.mod)) rfl ?_
      rintro _ w ⟨rfl, hk⟩
      have hp := hp.comp hk
      have hpS2 := hp
      refine GL_nil ⟨fun _ => hpS2, ?_⟩
      refine GO_rdT rfl (wn_none rfl) rfl (fun w => (rd_indexS (j := fi) rfl rfl rfl Try.underlying48 ts61 hfe (by omega) _ rfl)) ?_
      refine GO_rd rfl rfl (wn_none rfl) rfl hpS2 (fun w hp => (rd_loadN (L := roC _) rfl rfl Try.underlying61 rfl ts61 (roC_len _) (fun jq u hj => Sl.roE (hR.keep hp.mod) fi (by first | omega | assumption | exact Nat.lt_succ_self _) hj))) ?_
      refine GO_of_GL rfl ?_
      refine GL_alloc (wn_none rfl) rfl rfl tz61 rfl hp ?_
      intro g2 w hp
      have hpS3 := (hp.sub (.cons _ (.cons_cons _ .slnil)))
      refine GL_nil ⟨fun _ => hpS3, ?_⟩
      refine GO_of_GL rfl ?_
      refine GL_store (i := 0) (wn_none rfl) rfl rfl rfl rfl ts61 rfl (roC_len _) (roC_one hRo (roAt_mem hfi)) hp rfl (by first | exact Nat.le_of_ble_eq_true rfl | (rw [roC_len]; decide)) (splice_all _ _ (by first | rw [roC_len, roC_len] | (rw [roC_len]; rfl))) ?_
      intro w hp
      refine GL_nil ⟨fun h => absurd h (by decide), ?_⟩
      refine GO_nil ?_
      have hp := (((hp.front 0 rfl).front 1 rfl).take 2)
      exact ⟨g2, _, slots5 rfl rfl rfl rfl rfl, hp⟩
     ·skip
      refine GC_of_GL ?_
      refine GL_alloc (wn_none rfl) rfl rfl tz61 rfl hp ?_
      intro g3 w hp
      have hpS4 := (hp.sub (.cons _ (.cons_cons _ .slnil)))
      refine GL_nil ⟨fun _ => hpS4, ?_⟩
      refine GO_of_GL rfl ?_
      refine GL_call (wn_none rfl) rfl rfl (ref_gFind _ _ R L (haAt L i).2 _ (hR.keep hp.mod) (hL.keep hp.mod)) rfl ?_
      rintro _ w ⟨rfl, hk⟩
      have hp := hp.comp hk
      have hpS5 := (hp.sub (.cons _ (.cons_cons _ .slnil)))
      refine GL_nil ⟨fun _ => hpS5, ?_⟩
      refine GO_rdT rfl (wn_none rfl) rfl (fun w => (rd_indexS (j := fi) rfl rfl rfl Try.underlying48 ts61 hfe (by omega) _ rfl)) ?_
      refine GO_rd rfl rfl (wn_none rfl) rfl hpS5 (fun w hp => (rd_loadN (L := roC _) rfl rfl Try.underlying61 rfl ts61 (roC_len _) (fun jq u hj => Sl.roE (hR.keep hp.mod) fi (by first | omega | assumption | exact Nat.lt_succ_self _) hj))) ?_
      refine GO_of_GL rfl ?_
      refine GL_store (i := 0) (wn_none rfl) rfl rfl rfl rfl ts61 rfl (roC_len _) (roC_one hRo (roAt_mem hfi)) hp rfl (by first | exact Nat.le_of_ble_eq_true rfl | (rw [roC_len]; decide)) (splice_all _ _ (by first | rw [roC_len, roC_len] | (rw [roC_len]; rfl))) ?_
      intro w hp
      refine GL_nil ⟨fun h => absurd h (by decide), ?_⟩
      refine GO_nil ?_
      have hp := (((hp.front 0 rfl).front 1 rfl).take 2)
      exact ⟨g3, _, slots5 rfl rfl rfl rfl rfl, hp⟩
    ·rintro f w ⟨g2, fz, rfl, hp⟩
     refine GW_seq ?_
     refine GW_region ?_
     refine GL_rd (v := .int _ _) (wn_none rfl) rfl (rd_assign rfl rfl) ?_
     refine GL_nil ?_
     refine GW_block ?_
     refine GW_loop ?_
     refine Lp_ind (α := Nat) (fun a_0 f_0 w' => match a_0 with | k => ∃ fz, f_0 = (upd (upd (upd (upd (upd (upd fz 9 (.int .i64 (k : Int))) 1 (.string who)) 2 (.int .i64 op)) 3 (.pointer (some ⟨g, 0, none⟩))) 7 (.int .i64 (i : Int))) 8 (.pointer (some ⟨g2, 0, none⟩))) ∧ Hp w0 [] w' [cells g 51 [.slice (some ⟨gA, bA, none⟩) R.length c, .slice (some ⟨gB, bB, none⟩) L.length d], cells g2 61 (roC (roAt R fi))] ∧ (k ≤ (roAt R fi).2.2.length) ∧ (∀ j, j < k → ¬ (intAt (roAt R fi).2.2 j = op ∧ 1 ≤ op ∧ op ≤ 18))) (fun a_0 => match a_0 with | k => (roAt R fi).2.2.length - k) ?_ 0 _ _ ?_
     ·rintro k f wz ⟨fz, rfl, hp, hk0, hok2⟩ ihL1
      refine Lp_round ?_
      refine GW_seq ?_
      refine GW_seq ?_
      refine GW_region ?_
      refine GL_rd (v := .int _ _) (wn_none rfl) rfl (rd_move rfl rfl) ?_
      refine GL_rd (wn_none rfl) rfl (rd_field rfl rfl fa61_1 _ rfl) ?_
      refine GL_rd (v := .slice _ _ _) (wn_none rfl) rfl (rd_load rfl rfl Try.underlying36 rfl ((cell_of_cells (hp.get 1 rfl) _).trans ((ro_ops _).trans (congrArg some hoe)))) ?_
      refine GL_rd (wn_none rfl) rfl (rd_len rfl rfl Try.underlying36) ?_
      refine GL_rd (wn_none rfl) rfl (rd_bin rfl rfl rfl bo_lss) ?_
      refine GL_nil ?_
      refine GW_cond rfl (fun hb3 => ?_) (fun hb3 => ?_)
      ·(try simp only [decide_eq_true_eq, decide_eq_false_iff_not, Bool.not_eq_true', Bool.not_eq_false', Bool.not_eq_eq_eq_not, Bool.not_true, Bool.not_false, Int.not_lt, Int.not_le] at hb3)
       obtain ⟨gO, bO, rfl⟩ := ho.addr (by rw [List.length_map]; omega)
       refine GW_skip ?_
       refine GW_seq ?_
       refine GW_block ?_
       refine GW_seq ?_
       refine GW_region ?_
       refine GL_rd (wn_none rfl) rfl (rd_field rfl rfl fa61_1 _ rfl) ?_
       refine GL_rd (v := .slice _ _ _) (wn_none rfl) rfl (rd_load rfl rfl Try.underlying36 rfl ((cell_of_cells (hp.get 1 rfl) _).trans ((ro_ops _).trans (congrArg some hoe)))) ?_
       refine GL_rd (v := .int _ _) (wn_none rfl) rfl (rd_move rfl rfl) ?_
       refine GL_rd (wn_none rfl) rfl (rd_indexS (j := k) rfl rfl rfl Try.underlying36 ts3 rfl (by omega) _ rfl) ?_
       refine GL_rd (wn_none rfl) rfl (rd_load rfl rfl Try.underlying3 rfl ((ho.keep hp.mod).get _ _ (intAt_cell (l := (roAt R fi).2.2) (i := k) (by omega)))) ?_
       refine GL_rd (v := .int _ _) (wn_none rfl) rfl (rd_move rfl rfl) ?_
       refine GL_rd (wn_none rfl) rfl (rd_bin rfl rfl rfl bo_eql) ?_
       refine GL_rd (v := .bool _) (wn_none rfl) rfl (rd_move rfl rfl) ?_
       refine GL_split (t := 51) (b := _) rfl ?_ ?_
       ·intro hb4; (try simp only [decide_eq_true_eq, decide_eq_false_iff_not, Bool.not_eq_true', Bool.not_eq_false', Bool.not_eq_eq_eq_not, Bool.not_true, Bool.not_false, Int.not_lt, Int.not_le] at hb4)
        refine GL_rd (v := .int _ _) (wn_on rfl rfl rfl rfl) rfl (rd_move rfl rfl) ?_
        refine GL_rd (wn_on rfl rfl rfl rfl) rfl (rd_bin rfl rfl rfl bo_geq) ?_
        refine GL_rd (v := .bool _) (wn_none rfl) rfl (rd_pickT rfl rfl rfl) ?_
        refine GL_rd (v := .bool _) (wn_none rfl) rfl (rd_move rfl rfl) ?_
        refine GL_split (t := 55) (b := _) rfl ?_ ?_
        ·intro hb5; (try simp only [decide_eq_true_eq, decide_eq_false_iff_not, Bool.not_eq_true', Bool.not_eq_false', Bool.not_eq_eq_eq_not, Bool.not_true, Bool.not_false, Int.not_lt, Int.not_le] at hb5)
         refine GL_rd (v := .int _ _) (wn_on rfl rfl rfl rfl) rfl (rd_move rfl rfl) ?_
         refine GL_rd (wn_on rfl rfl rfl rfl) rfl (rd_bin rfl rfl rfl bo_leq) ?_
         refine GL_rd (v := .bool _) (wn_none rfl) rfl (rd_pickT rfl rfl rfl) ?_
         refine GL_nil ?_
         refine GW_cond rfl (fun hb6 => ?_) (fun hb6 => ?_)
         ·(try simp only [decide_eq_true_eq, decide_eq_false_iff_not, Bool.not_eq_true', Bool.not_eq_false', Bool.not_eq_eq_eq_not, Bool.not_true, Bool.not_false, Int.not_lt, Int.not_le] at hb6)
          have hyes := hit_yes hwho hfe (k := k) (by omega) (by omega) (by omega) (by omega)
          refine GW_seq ?_
          refine GW_region ?_
          refine GL_rd (v := .bool _) (wn_none rfl) rfl (rd_assign rfl rfl) ?_
          refine GL_nil ?_
          refine GW_ret ?_
          exact ⟨_, res1 Try.results23 (rv_tmp (v := .bool _) rfl rfl), by rw [mayR_yes (by omega) hyes], hp.mods⟩
         ·(try simp only [decide_eq_true_eq, decide_eq_false_iff_not, Bool.not_eq_true', Bool.not_eq_false', Bool.not_eq_eq_eq_not, Bool.not_true, Bool.not_false, Int.not_lt, Int.not_le] at hb6)
          refine GW_skip ?_
          refine GW_region ?_
          refine GL_rd (v := .int _ _) (wn_none rfl) rfl (rd_move rfl rfl) ?_
          refine GL_rd (wn_none rfl) rfl (rd_bin rfl rfl rfl (bo_add64 (by omega))) ?_
          refine GL_rd (v := .int _ _) (wn_none rfl) rfl (rd_assign rfl rfl) ?_
          refine GL_nil ?_
          have hp := (((hp.front 1 rfl).front 1 rfl).take 2)
          exact ihL1 (k + 1) _ _ (by simp only []; omega) ⟨_, slots6 rfl rfl rfl rfl rfl rfl, hp, by omega, fun j hj => by rcases Nat.lt_succ_iff_lt_or_eq.1 hj with h | h; exact hok2 j h; subst h; omega⟩
        ·intro hb5; (try simp only [decide_eq_true_eq, decide_eq_false_iff_not, Bool.not_eq_true', Bool.not_eq_false', Bool.not_eq_eq_eq_not, Bool.not_true, Bool.not_false, Int.not_lt, Int.not_le] at hb5)
         refine GL_pass (nw_off rfl rfl rfl rfl rfl) rfl ?_
         refine GL_pass (nw_off rfl rfl rfl rfl rfl) rfl ?_
         refine GL_rd (v := .bool _) (wn_none rfl) rfl (rd_pickF rfl rfl rfl) ?_
         refine GL_nil ?_
         refine GW_false rfl ?_
         refine GW_skip ?_
         refine GW_region ?_
         refine GL_rd (v := .int _ _) (wn_none rfl) rfl (rd_move rfl rfl) ?_
         refine GL_rd (wn_none rfl) rfl (rd_bin rfl rfl rfl (bo_add64 (by omega))) ?_
         refine GL_rd (v := .int _ _) (wn_none rfl) rfl (rd_assign rfl rfl) ?_
         refine GL_nil ?_
         have hp := (((hp.front 1 rfl).front 1 rfl).take 2)
         exact ihL1 (k + 1) _ _ (by simp only []; omega) ⟨_, slots6 rfl rfl rfl rfl rfl rfl, hp, by omega, fun j hj => by rcases Nat.lt_succ_iff_lt_or_eq.1 hj with h | h; exact hok2 j h; subst h; omega⟩
       ·intro hb4; (try simp only [decide_eq_true_eq, decide_eq_false_iff_not, Bool.not_eq_true', Bool.not_eq_false', Bool.not_eq_eq_eq_not, Bool.not_true, Bool.not_false, Int.not_lt, Int.not_le] at hb4)
        refine GL_pass (nw_off rfl rfl rfl rfl rfl) rfl ?_
        refine GL_pass (nw_off rfl rfl rfl rfl rfl) rfl ?_
        refine GL_rd (v := .bool _) (wn_none rfl) rfl (rd_pickF rfl rfl rfl) ?_
        refine GL_rd (v := .bool _) (wn_none rfl) rfl (rd_move rfl rfl) ?_
        refine GL_pass (nw_off rfl rfl rfl rfl rfl) rfl ?_
        refine GL_pass (nw_off rfl rfl rfl rfl rfl) rfl ?_
        refine GL_rd (v := .bool _) (wn_none rfl) rfl (rd_pickF rfl rfl rfl) ?_
        refine GL_nil ?_
        refine GW_false rfl ?_
        refine GW_skip ?_
        refine GW_region ?_
        refine GL_rd (v := .int _ _) (wn_none rfl) rfl (rd_move rfl rfl) ?_
        refine GL_rd (wn_none rfl) rfl (rd_bin rfl rfl rfl (bo_add64 (by omega))) ?_
        refine GL_rd (v := .int _ _) (wn_none rfl) rfl (rd_assign rfl rfl) ?_
        refine GL_nil ?_
        have hp := (((hp.front 1 rfl).front 1 rfl).take 2)
        exact ihL1 (k + 1) _ _ (by simp only []; omega) ⟨_, slots6 rfl rfl rfl rfl rfl rfl, hp, by omega, fun j hj => by rcases Nat.lt_succ_iff_lt_or_eq.1 hj with h | h; exact hok2 j h; subst h; omega⟩
      ·(try simp only [decide_eq_true_eq, decide_eq_false_iff_not, Bool.not_eq_true', Bool.not_eq_false', Bool.not_eq_eq_eq_not, Bool.not_true, Bool.not_false, Int.not_lt, Int.not_le] at hb3)
       have hnm : ¬ hitM R who op (haAt L i) := hit_no hfe (fun j hj => hok2 j (by omega))
       refine GW_exit ?_
       refine GW_region ?_
       refine GL_rd (v := .int .i64 (i : Int)) (wn_none rfl) rfl (rd_move rfl rfl) ?_
       refine GL_rd (wn_none rfl) rfl (rd_bin rfl rfl rfl (bo_add64 (by omega))) ?_
       refine GL_rd (v := .int _ _) (wn_none rfl) rfl (rd_assign rfl rfl) ?_
       refine GL_nil ?_
       have hp := ((hp.front 0 rfl).take 1)
       exact ihL0 (i + 1, _, _) _ _ (by simp only []; omega) ⟨_, slots4 rfl rfl rfl rfl, hp, by omega, hR, hL, fun j hj => by rcases Nat.lt_succ_iff_lt_or_eq.1 hj with h | h; exact hok j h; subst h; exact hnm⟩
     ·have hp := (((hp.front 1 rfl).front 1 rfl).take 2)
      refine ⟨_, slots6 rfl rfl rfl rfl rfl rfl, hp, Nat.zero_le _, fun j hj => absurd hj (by omega)⟩
  ·(try simp only [decide_eq_true_eq, decide_eq_false_iff_not, Bool.not_eq_true', Bool.not_eq_false', Bool.not_eq_eq_eq_not, Bool.not_true, Bool.not_false, Int.not_lt, Int.not_le] at hb)
   refine GW_exit ?_
   refine GW_seq ?_
   refine GW_region ?_
   refine GL_rd (v := .bool _) (wn_none rfl) rfl (rd_assign rfl rfl) ?_
   refine GL_nil ?_
   refine GW_ret ?_
   exact ⟨_, res1 Try.results23 (rv_tmp (v := .bool _) rfl rfl), by rw [mayR_no (fun j hj => hok j (by omega))], hp.mods⟩
 ·refine ⟨_, slots4 rfl rfl rfl rfl, hp, Nat.zero_le _, hR, hL, fun j hj => absurd hj (by omega)⟩
end Go.Proofs.Ytpagpmioopaciaa
