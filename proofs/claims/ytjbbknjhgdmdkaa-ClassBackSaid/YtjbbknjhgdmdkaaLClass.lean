/- Walks of functions of the program. -/
import Derived.Test.YtjbbknjhgdmdkaaFClass
set_option linter.unusedVariables false
set_option linter.unusedSimpArgs false
namespace Go.Proofs.Ytjbbknjhgdmdkaa
open Go.Mo Go.RowKit
theorem cl_light (so : Value) (k : Nat) (l : List (Int × Cls)) (w0 : World) (hs : Sl w0 so 5 k (l.flatMap opC)) : Does Try.prog 55 #[so] w0 fun v w' => v = .bool (lightB l) ∧ Hp w0 [] w' [] := by
 obtain ⟨A, c0, rfl⟩ := sl_shape hs
 have hlo := flat_len opC_len (by decide) hs.len
 subst hlo
 have hmle := hs.le
 refine does_of (l := [.slice A l.length c0]) Try.func55 (by kernel_rfl) rfl Try.ntmps55 rfl rfl ?_
 have hp := Hp.refl w0 []
 refine GW_seq ?_
 refine GW_region ?_
 refine GL_rd (v := .bool _) (wn_none rfl) rfl (rd_assign rfl rfl) ?_
 refine GL_nil ?_
 refine GW_seq ?_
 refine GW_seq ?_
 refine GW_region ?_
 refine GL_rd (v := .slice _ _ _) (wn_none rfl) rfl (rd_move rfl rfl) ?_
 refine GL_rd (wn_none rfl) rfl (rd_len rfl rfl Try.underlying87) ?_
 refine GL_rd (wn_none rfl) rfl (rd_bin rfl rfl rfl bo_gtr) ?_
 refine GL_nil ?_
 refine GW_cond rfl (fun hb => ?_) (fun hb => ?_)
 ·(try simp only [decide_eq_true_eq, decide_eq_false_iff_not, Bool.not_eq_true', Bool.not_eq_false', Bool.not_eq_eq_eq_not, Bool.not_true, Bool.not_false, Int.not_lt, Int.not_le] at hb)
  refine GW_seq ?_
  refine GW_region ?_
  refine GL_rd (v := .bool _) (wn_none rfl) rfl (rd_assign rfl rfl) ?_
  refine GL_nil ?_
  refine GW_ret ?_
  exact ⟨_, res1 Try.results55 (rv_tmp (v := .bool _) rfl rfl), by rw [lightB_no (by omega)], hp⟩
 ·(try simp only [decide_eq_true_eq, decide_eq_false_iff_not, Bool.not_eq_true', Bool.not_eq_false', Bool.not_eq_eq_eq_not, Bool.not_true, Bool.not_false, Int.not_lt, Int.not_le] at hb)
  refine GW_skip ?_
  refine GW_seq ?_
  refine GW_seq ?_
  refine GW_region ?_
  refine GL_rd (v := .int _ _) (wn_none rfl) rfl (rd_assign rfl rfl) ?_
  refine GL_nil ?_
  refine GW_block ?_
  refine GW_loop ?_
  refine Lp_ind (α := Nat) (fun a_0 f_0 w' => match a_0 with | i => ∃ fz, f_0 = (upd (upd fz 0 (.slice A l.length c0)) 3 (.int .i64 (i : Int))) ∧ Hp w0 [] w' [] ∧ (i ≤ l.length) ∧ (∀ j, j < i → (opAt l j).2.nm.size ≤ 100)) (fun a_0 => match a_0 with | i => l.length - i) ?_ 0 _ _ ?_
  ·rintro i f wz ⟨fz, rfl, hp, hi0, hall⟩ ihL0
   refine Lp_round ?_
   refine GW_seq ?_
   refine GW_seq ?_
   refine GW_region ?_
   refine GL_rd (v := .int _ _) (wn_none rfl) rfl (rd_move rfl rfl) ?_
   refine GL_rd (v := .slice _ _ _) (wn_none rfl) rfl (rd_move rfl rfl) ?_
   refine GL_rd (wn_none rfl) rfl (rd_len rfl rfl Try.underlying87) ?_
   refine GL_rd (wn_none rfl) rfl (rd_bin rfl rfl rfl bo_lss) ?_
   refine GL_nil ?_
   refine GW_cond rfl (fun hb2 => ?_) (fun hb2 => ?_)
   ·(try simp only [decide_eq_true_eq, decide_eq_false_iff_not, Bool.not_eq_true', Bool.not_eq_false', Bool.not_eq_eq_eq_not, Bool.not_true, Bool.not_false, Int.not_lt, Int.not_le] at hb2)
    obtain ⟨gO, bO, rfl⟩ := hs.addr (by rw [flat_length opC_len]; omega)
    refine GW_skip ?_
    refine GW_seq ?_
    refine GW_block ?_
    refine GW_seq ?_
    refine GW_region ?_
    refine GL_rd (v := .slice _ _ _) (wn_none rfl) rfl (rd_move rfl rfl) ?_
    refine GL_rd (v := .int _ _) (wn_none rfl) rfl (rd_move rfl rfl) ?_
    refine GL_rd (wn_none rfl) rfl (rd_indexS (j := i) rfl rfl rfl Try.underlying87 ts107 rfl (by omega) _ rfl) ?_
    refine GL_rd (wn_none rfl) rfl (rd_field rfl rfl fa107_1 _ rfl) ?_
    refine GL_rd (wn_none rfl) rfl (rd_field rfl rfl fa97_0 _ rfl) ?_
    refine GL_rd (wn_none rfl) rfl (rd_load rfl rfl Try.underlying9 rfl ((hs.keep hp.mod).get _ _ (op_cell (i := i) (j := 1) (by omega) rfl (by decide)))) ?_
    refine GL_rd (wn_none rfl) rfl (rd_lenS rfl rfl Try.underlying9) ?_
    refine GL_rd (wn_none rfl) rfl (rd_bin rfl rfl rfl bo_gtr) ?_
    refine GL_nil ?_
    refine GW_cond rfl (fun hb3 => ?_) (fun hb3 => ?_)
    ·(try simp only [decide_eq_true_eq, decide_eq_false_iff_not, Bool.not_eq_true', Bool.not_eq_false', Bool.not_eq_eq_eq_not, Bool.not_true, Bool.not_false, Int.not_lt, Int.not_le] at hb3)
     refine GW_seq ?_
     refine GW_region ?_
     refine GL_rd (v := .bool _) (wn_none rfl) rfl (rd_assign rfl rfl) ?_
     refine GL_nil ?_
     refine GW_ret ?_
     exact ⟨_, res1 Try.results55 (rv_tmp (v := .bool _) rfl rfl), by rw [lightB_bad (i := i) (by omega) (by omega)], hp⟩
    ·(try simp only [decide_eq_true_eq, decide_eq_false_iff_not, Bool.not_eq_true', Bool.not_eq_false', Bool.not_eq_eq_eq_not, Bool.not_true, Bool.not_false, Int.not_lt, Int.not_le] at hb3)
     refine GW_skip ?_
     refine GW_region ?_
     refine GL_rd (v := .int _ _) (wn_none rfl) rfl (rd_move rfl rfl) ?_
     refine GL_rd (wn_none rfl) rfl (rd_bin rfl rfl rfl (bo_add64 (by omega))) ?_
     refine GL_rd (v := .int _ _) (wn_none rfl) rfl (rd_assign rfl rfl) ?_
     refine GL_nil ?_
     exact ihL0 (i + 1) _ _ (by simp only []; omega) ⟨_, slots2 rfl rfl, hp, by omega, fun j hj => by by_cases e : j = i; subst e; omega; exact hall j (by omega)⟩
   ·(try simp only [decide_eq_true_eq, decide_eq_false_iff_not, Bool.not_eq_true', Bool.not_eq_false', Bool.not_eq_eq_eq_not, Bool.not_true, Bool.not_false, Int.not_lt, Int.not_le] at hb2)
    refine GW_exit ?_
    refine GW_seq ?_
    refine GW_region ?_
    refine GL_rd (v := .bool _) (wn_none rfl) rfl (rd_assign rfl rfl) ?_
    refine GL_nil ?_
    refine GW_ret ?_
    exact ⟨_, res1 Try.results55 (rv_tmp (v := .bool _) rfl rfl), by rw [lightB_yes (by omega) (fun j hj => hall j (by omega))], hp⟩
  ·refine ⟨_, slots2 rfl rfl, hp, Nat.zero_le _, fun j hj => absurd hj (Nat.not_lt_zero _)⟩

theorem cl_made (so : Value) (k : Nat) (l : List (Int × Cls)) (w0 : World) (hs : Sl w0 so 5 k (l.flatMap opC)) (hl : lightB l = true) : Does Try.prog 57 #[so] w0 fun v w' => ∃ gq mq sv2 mv r L, v = .tuple #[.pointer (some ⟨gq, 0, none⟩), mv, .bool true] ∧ ClsOk L ∧ (∀ w, r.at_ w → Sl w mv 4 L.length (L.flatMap clC)) ∧ Hp w0 [] w' [r, cells gq 180 [sv2, .map (some mq)], .row 97 4 sv2 L.length (L.flatMap clC), .blk mq (.map ⟨mapE 0 L⟩ L.length)] := by
 obtain ⟨A, c0, rfl⟩ := sl_shape hs
 have hlo := flat_len opC_len (by decide) hs.len
 subst hlo
 have hmle := hs.le
 have hlt := light_len hl
 refine does_of (l := [.slice A l.length c0]) Try.func57 (by kernel_rfl) rfl Try.ntmps57 rfl rfl ?_
 have hp := Hp.refl w0 []
 refine GW_seq ?_
 refine GW_region ?_
 refine GL_rd (v := _) (wn_none rfl) rfl (rd_assign rfl rfl) ?_
 refine GL_rd (v := .slice _ _ _) (wn_none rfl) rfl (rd_assign rfl rfl) ?_
 refine GL_rd (v := .bool _) (wn_none rfl) rfl (rd_assign rfl rfl) ?_
 refine GL_nil ?_
 refine GW_seq ?_
 refine GW_region ?_
 refine GL_call (wn_none rfl) rfl rfl (cl_New _) rfl ?_
 rintro _ w ⟨gq, mq, rfl, hk⟩
 have hp := hp.comp hk
 have hp := hp.nilRow 97 4
 refine GL_rd (v := .pointer (some ⟨_, _, none⟩)) (wn_none rfl) rfl (rd_assign rfl rfl) ?_
 refine GL_nil ?_
 refine GW_seq ?_
 refine GW_seq ?_
 refine GW_region ?_
 refine GL_rd (v := .pointer (some ⟨_, _, none⟩)) (wn_none rfl) rfl (rd_move rfl rfl) ?_
 refine GL_rd (wn_none rfl) rfl (rd_bin rfl rfl rfl (bo_pnil Try.underlying89)) ?_
 refine GL_nil ?_
 refine GW_false rfl ?_
 refine GW_skip ?_
 refine GW_seq ?_
 refine GW_region ?_
 refine GL_rd (v := .slice _ _ _) (wn_none rfl) rfl (rd_assign rfl rfl) ?_
 refine GL_nil ?_
 refine GW_seq ?_
 refine GW_seq ?_
 refine GW_region ?_
 refine GL_rd (v := .int _ _) (wn_none rfl) rfl (rd_assign rfl rfl) ?_
 refine GL_nil ?_
 refine GW_block ?_
 refine GW_loop ?_
 refine Lp_ind (α := Nat × List Cls × Value × Value × Res) (fun a_0 f_0 w' => match a_0 with | (i, L, sv2, mv, r) => ∃ fz, f_0 = (upd (upd (upd (upd fz 0 (.slice A l.length c0)) 5 (.pointer (some ⟨gq, 0, none⟩))) 6 (mv)) 7 (.int .i64 (i : Int))) ∧ Hp w0 [] w' [r, cells gq 180 [sv2, .map (some mq)], .row 97 4 sv2 L.length (L.flatMap clC), .blk mq (.map ⟨mapE 0 L⟩ L.length)] ∧ (i ≤ l.length) ∧ (ClsOk L) ∧ (∀ w, r.at_ w → Sl w mv 4 L.length (L.flatMap clC))) (fun a_0 => match a_0 with | (i, L, sv2, mv, r) => l.length - i) ?_ (0, [], .slice none 0 0, .slice none 0 0, .row 97 4 (.slice none 0 0) 0 []) _ _ ?_
 ·rintro ⟨i, L, sv2, mv, r⟩ f wz ⟨fz, rfl, hp, hi0, hok, hmv⟩ ihL0
  refine Lp_round ?_
  refine GW_seq ?_
  refine GW_seq ?_
  refine GW_region ?_
  refine GL_rd (v := .int _ _) (wn_none rfl) rfl (rd_move rfl rfl) ?_
  refine GL_rd (v := .slice _ _ _) (wn_none rfl) rfl (rd_move rfl rfl) ?_
  refine GL_rd (wn_none rfl) rfl (rd_len rfl rfl Try.underlying87) ?_
  refine GL_rd (wn_none rfl) rfl (rd_bin rfl rfl rfl bo_lss) ?_
  refine GL_nil ?_
  refine GW_cond rfl (fun hb => ?_) (fun hb => ?_)
  ·(try simp only [decide_eq_true_eq, decide_eq_false_iff_not, Bool.not_eq_true', Bool.not_eq_false', Bool.not_eq_eq_eq_not, Bool.not_true, Bool.not_false, Int.not_lt, Int.not_le] at hb)
   obtain ⟨gO, bO, rfl⟩ := hs.addr (by rw [flat_length opC_len]; omega)
   have h8 := hok.1
   refine GW_skip ?_
   refine GW_seq ?_
   refine GW_block ?_
   refine GW_seq ?_
   refine GW_region ?_
   refine GL_rd (v := .int _ _) (wn_none rfl) rfl (rd_assign rfl rfl) ?_
   refine GL_rd (v := .int _ _) (wn_none rfl) rfl (rd_assign rfl rfl) ?_
   refine GL_nil ?_
   refine GW_seq ?_
   refine GW_seq ?_
   refine GW_region ?_
   refine GL_rd (v := .slice _ _ _) (wn_none rfl) rfl (rd_move rfl rfl) ?_
   refine GL_rd (v := .int _ _) (wn_none rfl) rfl (rd_move rfl rfl) ?_
   refine GL_rd (wn_none rfl) rfl (rd_indexS (j := i) rfl rfl rfl Try.underlying87 ts107 rfl (by omega) _ rfl) ?_
   refine GL_rd (wn_none rfl) rfl (rd_field rfl rfl fa107_0 _ rfl) ?_
   refine GL_rd (wn_none rfl) rfl (rd_load rfl rfl Try.underlying3 rfl ((hs.keep hp.mod).get _ _ (op_cell (i := i) (j := 0) (by omega) rfl (by decide)))) ?_
   refine GL_rd (wn_none rfl) rfl (rd_bin rfl rfl rfl bo_eql) ?_
   refine GL_nil ?_
   refine GW_cond rfl (fun hb2 => ?_) (fun hb2 => ?_)
   ·(try simp only [decide_eq_true_eq, decide_eq_false_iff_not, Bool.not_eq_true', Bool.not_eq_false', Bool.not_eq_eq_eq_not, Bool.not_true, Bool.not_false, Int.not_lt, Int.not_le] at hb2)
    refine GW_seq ?_
    refine GW_drawnK 19 (.one 0 true (.one 1 true (.one 2 true (.one 3 true (.one 4 true (.one 5 true (.one 6 true (.one 7 true (.one 8 true (.one 9 true (.one 10 true (.one 11 true (.one 12 true (.one 13 false (.one 14 true (.one 15 true (.one 16 true (.one 17 true (.one 18 true .nil))))))))))))))))))) mixed (by kernel_rfl) hp (fun _ h => h.mods) fun w hp => ?_
    have hpS := hp.mods
    refine GO_rdT (v := mv) rfl (wn_none rfl) rfl (fun w => (rd_move rfl rfl)) ?_
    refine GO_rdT (v := .slice _ _ _) rfl (wn_none rfl) rfl (fun w => (rd_move rfl rfl)) ?_
    refine GO_rdT (v := .int _ _) rfl (wn_none rfl) rfl (fun w => (rd_move rfl rfl)) ?_
    refine GO_rdT rfl (wn_none rfl) rfl (fun w => (rd_indexS (j := i) rfl rfl rfl Try.underlying87 ts107 rfl (by omega) _ rfl)) ?_
    refine GO_rdT rfl (wn_none rfl) rfl (fun w => (rd_field rfl rfl fa107_1 _ rfl)) ?_
    refine GO_rdT rfl (wn_none rfl) rfl (fun w => (rd_field rfl rfl fa97_0 _ rfl)) ?_
    refine GO_rd rfl rfl (wn_none rfl) rfl hpS (fun w hp => (rd_load rfl rfl Try.underlying9 rfl ((hs.keep hp.mod).get _ _ (op_cell (i := i) (j := 1) (by omega) rfl (by decide))))) ?_
    refine GO_rdT (v := .slice _ _ _) rfl (wn_none rfl) rfl (fun w => (rd_move rfl rfl)) ?_
    refine GO_rdT (v := .int _ _) rfl (wn_none rfl) rfl (fun w => (rd_move rfl rfl)) ?_
    refine GO_rdT rfl (wn_none rfl) rfl (fun w => (rd_indexS (j := i) rfl rfl rfl Try.underlying87 ts107 rfl (by omega) _ rfl)) ?_
    refine GO_rdT rfl (wn_none rfl) rfl (fun w => (rd_field rfl rfl fa107_1 _ rfl)) ?_
    refine GO_rdT rfl (wn_none rfl) rfl (fun w => (rd_field rfl rfl fa97_1 _ rfl)) ?_
    refine GO_rd rfl rfl (wn_none rfl) rfl hpS (fun w hp => (rd_load rfl rfl Try.underlying3 rfl ((hs.keep hp.mod).get _ _ (op_cell (i := i) (j := 2) (by omega) rfl (by decide))))) ?_
    have hp := (hp.front 0 rfl)
    refine GO_of_GL rfl ?_
    refine GL_call (wn_none rfl) rfl rfl (ref_clLonger _ _ L (opAt l i).2.nm (opAt l i).2.pd _ (hmv _ (hp.get 0 rfl)) (by omega)) rfl ?_
    rintro _ w ⟨v2, rfl, hor⟩
    obtain ⟨r2, hp, hmv2⟩ := ref_merge hp hmv hor (fun h => lon_same h) (fun _ => rfl)
    have hpS2 := hp.mods
    refine GL_nil ⟨fun _ => hpS2, ?_⟩
    refine GO_rdT (v := .tuple _) rfl (wn_none rfl) rfl (fun w => (rd_move rfl rfl)) ?_
    refine GO_rdT (v := v2) rfl (wn_none rfl) rfl (fun w => (rd_extract rfl rfl rfl)) ?_
    refine GO_rdT (v := .int _ _) rfl (wn_none rfl) rfl (fun w => (rd_extract rfl rfl rfl)) ?_
    refine GO_rdT (v := v2) rfl (wn_none rfl) rfl (fun w => (rd_assign rfl rfl)) ?_
    refine GO_rdT (v := .int _ _) rfl (wn_none rfl) rfl (fun w => (rd_assign rfl rfl)) ?_
    refine GO_nil ?_
    refine GW_drawnK 15 (.one 0 true (.one 1 true (.one 2 true (.one 3 true (.one 4 true (.one 5 true (.one 6 true (.one 7 true (.one 8 true (.one 9 true (.one 10 true (.one 11 true (.one 12 true (.one 13 false (.one 14 true .nil))))))))))))))) mixed (by kernel_rfl) hp (fun _ h => h.mods) fun w hp => ?_
    have hpS3 := hp.mods
    refine GO_rdT (v := .pointer (some ⟨_, _, none⟩)) rfl (wn_none rfl) rfl (fun w => (rd_move rfl rfl)) ?_
    refine GO_rdT (v := .slice _ _ _) rfl (wn_none rfl) rfl (fun w => (rd_move rfl rfl)) ?_
    refine GO_rdT (v := .int _ _) rfl (wn_none rfl) rfl (fun w => (rd_move rfl rfl)) ?_
    refine GO_rdT rfl (wn_none rfl) rfl (fun w => (rd_indexS (j := i) rfl rfl rfl Try.underlying87 ts107 rfl (by omega) _ rfl)) ?_
    refine GO_rdT rfl (wn_none rfl) rfl (fun w => (rd_field rfl rfl fa107_1 _ rfl)) ?_
    refine GO_rdT rfl (wn_none rfl) rfl (fun w => (rd_field rfl rfl fa97_0 _ rfl)) ?_
    refine GO_rd rfl rfl (wn_none rfl) rfl hpS3 (fun w hp => (rd_load rfl rfl Try.underlying9 rfl ((hs.keep hp.mod).get _ _ (op_cell (i := i) (j := 1) (by omega) rfl (by decide))))) ?_
    refine GO_rdT (v := .slice _ _ _) rfl (wn_none rfl) rfl (fun w => (rd_move rfl rfl)) ?_
    refine GO_rdT (v := .int _ _) rfl (wn_none rfl) rfl (fun w => (rd_move rfl rfl)) ?_
    refine GO_rdT rfl (wn_none rfl) rfl (fun w => (rd_indexS (j := i) rfl rfl rfl Try.underlying87 ts107 rfl (by omega) _ rfl)) ?_
    refine GO_rdT rfl (wn_none rfl) rfl (fun w => (rd_field rfl rfl fa107_1 _ rfl)) ?_
    refine GO_rdT rfl (wn_none rfl) rfl (fun w => (rd_field rfl rfl fa97_1 _ rfl)) ?_
    refine GO_rd rfl rfl (wn_none rfl) rfl hpS3 (fun w hp => (rd_load rfl rfl Try.underlying3 rfl ((hs.keep hp.mod).get _ _ (op_cell (i := i) (j := 2) (by omega) rfl (by decide))))) ?_
    have hp := (((hp.front 3 rfl).front 3 rfl).front 3 rfl)
    refine GO_of_GL rfl ?_
    refine GL_call (wn_none rfl) rfl rfl (cl_Longer gq mq _ _ L _ (opAt l i).2.nm (opAt l i).2.pd _ (by omega) (hp.ownsT 3)) rfl ?_
    rintro _ w ⟨rfl, sv3, hk⟩
    have hp := hp.turnsT 3 hk
    have hpS4 := hp.mods
    refine GL_nil ⟨fun _ => hpS4, ?_⟩
    refine GO_rdT (v := .int _ _) rfl (wn_none rfl) rfl (fun w => (rd_assign rfl rfl)) ?_
    refine GO_nil ?_
    refine GW_seq ?_
    refine GW_region ?_
    refine GL_rd (v := .int _ _) (wn_none rfl) rfl (rd_move rfl rfl) ?_
    refine GL_rd (v := .int _ _) (wn_none rfl) rfl (rd_move rfl rfl) ?_
    refine GL_rd (wn_none rfl) rfl (rd_bin rfl rfl rfl bo_neq) ?_
    refine GL_nil ?_
    refine GW_cond rfl (fun hb3 => ?_) (fun hb3 => ?_)
    ·(try simp only [decide_eq_true_eq, decide_eq_false_iff_not, Bool.not_eq_true', Bool.not_eq_false', Bool.not_eq_eq_eq_not, Bool.not_true, Bool.not_false, Int.not_lt, Int.not_le] at hb3)
     all_goals first | exact absurd rfl hb3 | exact absurd trivial hb3 | exact absurd hb3 (by decide) | exact absurd (by decide) hb3 | exact absurd hb3 (by simp)
    ·(try simp only [decide_eq_true_eq, decide_eq_false_iff_not, Bool.not_eq_true', Bool.not_eq_false', Bool.not_eq_eq_eq_not, Bool.not_true, Bool.not_false, Int.not_lt, Int.not_le] at hb3)
     refine GW_skip ?_
     refine GW_region ?_
     refine GL_rd (v := .int _ _) (wn_none rfl) rfl (rd_move rfl rfl) ?_
     refine GL_rd (wn_none rfl) rfl (rd_bin rfl rfl rfl (bo_add64 (by omega))) ?_
     refine GL_rd (v := .int _ _) (wn_none rfl) rfl (rd_assign rfl rfl) ?_
     refine GL_nil ?_
     have hp := (((((hp.front 2 rfl).front 2 rfl).front 2 rfl).front 3 rfl).take 4)
     exact ihL0 (i + 1, lonL L (opAt l i).2.nm (opAt l i).2.pd, sv3, v2, r2) _ _ (by simp only []; omega) ⟨_, slots4 rfl rfl rfl rfl, hp, by omega, hok.longer _ _, hmv2⟩
   ·(try simp only [decide_eq_true_eq, decide_eq_false_iff_not, Bool.not_eq_true', Bool.not_eq_false', Bool.not_eq_eq_eq_not, Bool.not_true, Bool.not_false, Int.not_lt, Int.not_le] at hb2)
    refine GW_seq ?_
    refine GW_region ?_
    refine GL_rd (v := mv) (wn_none rfl) rfl (rd_move rfl rfl) ?_
    refine GL_rd (v := .slice _ _ _) (wn_none rfl) rfl (rd_move rfl rfl) ?_
    refine GL_rd (v := .int _ _) (wn_none rfl) rfl (rd_move rfl rfl) ?_
    refine GL_rd (wn_none rfl) rfl (rd_indexS (j := i) rfl rfl rfl Try.underlying87 ts107 rfl (by omega) _ rfl) ?_
    refine GL_rd (wn_none rfl) rfl (rd_field rfl rfl fa107_1 _ rfl) ?_
    refine GL_rd (wn_none rfl) rfl (rd_loadN (L := clC (opAt l i).2) rfl rfl Try.underlying97 rfl ts97 rfl (fun j u hj => op_sub (hs.keep hp.mod) (by omega) j u hj)) ?_
    have hp := (hp.front 0 rfl)
    refine GL_call (wn_none rfl) rfl rfl (ref_clAdd _ _ L (opAt l i).2 _ (by have := hlt.2 i (by omega); omega) (hmv _ (hp.get 0 rfl)) (by omega)) rfl ?_
    rintro _ w ⟨v2, rfl, hor⟩
    obtain ⟨r2, hp, hmv2⟩ := ref_merge hp hmv hor (fun h => cla_same h) (fun h => claL_yes h)
    refine GL_rd (v := .tuple _) (wn_none rfl) rfl (rd_move rfl rfl) ?_
    refine GL_rd (v := v2) (wn_none rfl) rfl (rd_extract rfl rfl rfl) ?_
    refine GL_rd (v := .int _ _) (wn_none rfl) rfl (rd_extract rfl rfl rfl) ?_
    refine GL_rd (v := v2) (wn_none rfl) rfl (rd_assign rfl rfl) ?_
    refine GL_rd (v := .int _ _) (wn_none rfl) rfl (rd_assign rfl rfl) ?_
    refine GL_nil ?_
    refine GW_region ?_
    refine GL_rd (v := .pointer (some ⟨_, _, none⟩)) (wn_none rfl) rfl (rd_move rfl rfl) ?_
    refine GL_rd (v := .slice _ _ _) (wn_none rfl) rfl (rd_move rfl rfl) ?_
    refine GL_rd (v := .int _ _) (wn_none rfl) rfl (rd_move rfl rfl) ?_
    refine GL_rd (wn_none rfl) rfl (rd_indexS (j := i) rfl rfl rfl Try.underlying87 ts107 rfl (by omega) _ rfl) ?_
    refine GL_rd (wn_none rfl) rfl (rd_field rfl rfl fa107_1 _ rfl) ?_
    refine GL_rd (wn_none rfl) rfl (rd_loadN (L := clC (opAt l i).2) rfl rfl Try.underlying97 rfl ts97 rfl (fun j u hj => op_sub (hs.keep hp.mod) (by omega) j u hj)) ?_
    have hp := (((hp.front 3 rfl).front 3 rfl).front 3 rfl)
    refine GL_call (wn_none rfl) rfl rfl (cl_Add gq mq _ _ L _ (opAt l i).2 _ (by omega) (by have := hlt.2 i (by omega); omega) (hp.ownsT 3)) rfl ?_
    rintro _ w ⟨rfl, sv3, hk⟩
    have hp := hp.turnsT 3 hk
    refine GL_rd (v := .int _ _) (wn_none rfl) rfl (rd_assign rfl rfl) ?_
    refine GL_nil ?_
    refine GW_seq ?_
    refine GW_region ?_
    refine GL_rd (v := .int _ _) (wn_none rfl) rfl (rd_move rfl rfl) ?_
    refine GL_rd (v := .int _ _) (wn_none rfl) rfl (rd_move rfl rfl) ?_
    refine GL_rd (wn_none rfl) rfl (rd_bin rfl rfl rfl bo_neq) ?_
    refine GL_nil ?_
    refine GW_cond rfl (fun hb4 => ?_) (fun hb4 => ?_)
    ·(try simp only [decide_eq_true_eq, decide_eq_false_iff_not, Bool.not_eq_true', Bool.not_eq_false', Bool.not_eq_eq_eq_not, Bool.not_true, Bool.not_false, Int.not_lt, Int.not_le] at hb4)
     all_goals first | exact absurd rfl hb4 | exact absurd trivial hb4 | exact absurd hb4 (by decide) | exact absurd (by decide) hb4 | exact absurd hb4 (by simp)
    ·(try simp only [decide_eq_true_eq, decide_eq_false_iff_not, Bool.not_eq_true', Bool.not_eq_false', Bool.not_eq_eq_eq_not, Bool.not_true, Bool.not_false, Int.not_lt, Int.not_le] at hb4)
     refine GW_skip ?_
     refine GW_region ?_
     refine GL_rd (v := .int _ _) (wn_none rfl) rfl (rd_move rfl rfl) ?_
     refine GL_rd (wn_none rfl) rfl (rd_bin rfl rfl rfl (bo_add64 (by omega))) ?_
     refine GL_rd (v := .int _ _) (wn_none rfl) rfl (rd_assign rfl rfl) ?_
     refine GL_nil ?_
     have hp := (((((hp.front 2 rfl).front 2 rfl).front 2 rfl).front 3 rfl).take 4)
     exact ihL0 (i + 1, claL L (opAt l i).2, sv3, v2, r2) _ _ (by simp only []; omega) ⟨_, slots4 rfl rfl rfl rfl, hp, by omega, hok.add _, hmv2⟩
  ·(try simp only [decide_eq_true_eq, decide_eq_false_iff_not, Bool.not_eq_true', Bool.not_eq_false', Bool.not_eq_eq_eq_not, Bool.not_true, Bool.not_false, Int.not_lt, Int.not_le] at hb)
   refine GW_exit ?_
   refine GW_seq ?_
   refine GW_region ?_
   refine GL_rd (v := .pointer (some ⟨_, _, none⟩)) (wn_none rfl) rfl (rd_move rfl rfl) ?_
   refine GL_rd (v := mv) (wn_none rfl) rfl (rd_move rfl rfl) ?_
   refine GL_rd (v := .pointer (some ⟨_, _, none⟩)) (wn_none rfl) rfl (rd_assign rfl rfl) ?_
   refine GL_rd (v := mv) (wn_none rfl) rfl (rd_assign rfl rfl) ?_
   refine GL_rd (v := .bool _) (wn_none rfl) rfl (rd_assign rfl rfl) ?_
   refine GL_nil ?_
   refine GW_ret ?_
   exact ⟨_, res3 Try.results57 (rv_tmp (v := .pointer (some ⟨_, _, none⟩)) rfl rfl) (rv_tmp (v := mv) rfl rfl) (rv_tmp (v := .bool _) rfl rfl), gq, mq, sv2, mv, r, L, rfl, hok, hmv, hp⟩
 ·have hp := hp.nilRow 97 4
  have hp := (((((hp.front 3 rfl).front 2 rfl).front 3 rfl).front 3 rfl).take 4)
  refine ⟨_, slots4 rfl rfl rfl rfl, hp, Nat.zero_le _, ClsOk.nil, fun w h => Sl.nil w 4⟩

theorem cl_works (w0 : World) : Does Try.prog 56 #[] w0 fun v w' => v = .bool true ∧ Hp w0 [] w' [] := by
 refine does_of (l := []) Try.func56 (by kernel_rfl) rfl Try.ntmps56 rfl rfl ?_
 have hp := Hp.refl w0 []
 refine GW_seq ?_
 refine GW_region ?_
 refine GL_rd (v := .bool _) (wn_none rfl) rfl (rd_assign rfl rfl) ?_
 refine GL_nil ?_
 refine GW_seq ?_
 refine GW_region ?_
 refine GL_call (wn_none rfl) rfl rfl (cl_New _) rfl ?_
 rintro _ w ⟨gq, mq, rfl, hk⟩
 have hp := hp.comp hk
 have hp := hp.nilRow 97 4
 refine GL_rd (v := .pointer (some ⟨_, _, none⟩)) (wn_none rfl) rfl (rd_assign rfl rfl) ?_
 refine GL_nil ?_
 refine GW_seq ?_
 refine GW_seq ?_
 refine GW_region ?_
 refine GL_rd (v := .pointer (some ⟨_, _, none⟩)) (wn_none rfl) rfl (rd_move rfl rfl) ?_
 refine GL_rd (wn_none rfl) rfl (rd_bin rfl rfl rfl (bo_pnil Try.underlying89)) ?_
 refine GL_nil ?_
 refine GW_false rfl ?_
 refine GW_skip ?_
 refine GW_seq ?_
 refine GW_region ?_
 refine GL_rd (v := .pointer (some ⟨_, _, none⟩)) (wn_none rfl) rfl (rd_move rfl rfl) ?_
 refine GL_rd (wn_none rfl) rfl (rd_buildS (L := clC (clT 10)) rfl tz97 pl97 (by kernel_rfl)) ?_
 have hp := (((hp.front 2 rfl).front 1 rfl).front 2 rfl)
 refine GL_call (wn_none rfl) rfl rfl (cl_Add gq mq _ _ [] _ (clT 10) _ (by decide) (by decide) (hp.ownsT 3)) rfl ?_
 rintro _ w ⟨rfl, sv_, hk⟩
 have hp := hp.turnsT 3 hk
 rw [show claC [] (clT 10) = 0 from by decide]
 rw [show claL [] (clT 10) = [clT 10] from claL_yes (by decide)] at hp
 refine GL_rd (v := .int _ _) (wn_none rfl) rfl (rd_assign rfl rfl) ?_
 refine GL_nil ?_
 refine GW_seq ?_
 refine GW_region ?_
 refine GL_rd (v := .pointer (some ⟨_, _, none⟩)) (wn_none rfl) rfl (rd_move rfl rfl) ?_
 refine GL_rd (wn_none rfl) rfl (rd_buildS (L := clC clU) rfl tz97 pl97 (by kernel_rfl)) ?_
 have hp := (((hp.front 2 rfl).front 2 rfl).front 2 rfl)
 refine GL_call (wn_none rfl) rfl rfl (cl_Add gq mq _ _ [clT 10] _ clU _ (by decide) (by decide) (hp.ownsT 3)) rfl ?_
 rintro _ w ⟨rfl, sv_, hk⟩
 have hp := hp.turnsT 3 hk
 rw [show claC [clT 10] clU = 9 from by decide]
 rw [show claL [clT 10] clU = [clT 10] from cla_same (by decide)] at hp
 refine GL_rd (v := .int _ _) (wn_none rfl) rfl (rd_assign rfl rfl) ?_
 refine GL_nil ?_
 refine GW_seq ?_
 refine GW_region ?_
 refine GL_rd (v := .pointer (some ⟨_, _, none⟩)) (wn_none rfl) rfl (rd_move rfl rfl) ?_
 have hp := (((hp.front 2 rfl).front 2 rfl).front 2 rfl)
 refine GL_call (wn_none rfl) rfl rfl (cl_Longer gq mq _ _ [clT 10] _ taxN 9 _ (by decide) (hp.ownsT 3)) rfl ?_
 rintro _ w ⟨rfl, sv_, hk⟩
 have hp := hp.turnsT 3 hk
 rw [show lonC [clT 10] taxN 9 = 12 from by decide]
 rw [show lonL [clT 10] taxN 9 = [clT 10] from lon_same (by decide)] at hp
 refine GL_rd (v := .int _ _) (wn_none rfl) rfl (rd_assign rfl rfl) ?_
 refine GL_nil ?_
 refine GW_seq ?_
 refine GW_region ?_
 refine GL_rd (v := .pointer (some ⟨_, _, none⟩)) (wn_none rfl) rfl (rd_move rfl rfl) ?_
 have hp := (((hp.front 2 rfl).front 2 rfl).front 2 rfl)
 refine GL_call (wn_none rfl) rfl rfl (cl_Longer gq mq _ _ [clT 10] _ taxN 12 _ (by decide) (hp.ownsT 3)) rfl ?_
 rintro _ w ⟨rfl, sv_, hk⟩
 have hp := hp.turnsT 3 hk
 rw [show lonC [clT 10] taxN 12 = 0 from by decide]
 rw [show lonL [clT 10] taxN 12 = [clT 12] from (lon_yes (i := 0) (by decide) (by decide) (by decide)).2] at hp
 refine GL_rd (v := .int _ _) (wn_none rfl) rfl (rd_assign rfl rfl) ?_
 refine GL_nil ?_
 refine GW_seq ?_
 refine GW_region ?_
 refine GL_rd (v := .pointer (some ⟨_, _, none⟩)) (wn_none rfl) rfl (rd_move rfl rfl) ?_
 refine GL_call (wn_none rfl) rfl rfl (cl_Put gq mq _ _ [clT 12] _ (hp.get 0 rfl) (Sl.row (hp.get 1 rfl)) (hp.get 2 rfl) clT_ok) rfl ?_
 rintro _ w ⟨rfl, hk⟩
 have hp := hp.comp hk
 refine GL_call (wn_none rfl) rfl rfl (cl_Read (clsS [clT 12]) _ (clsS_length _)) rfl ?_
 intro v w hor
 obtain ⟨g2, m2, sv8, l8, rfl, hok8, hs8, hk⟩ := hor.resolve_left (fun q => q.2.2 _ clT_ok rfl); obtain rfl := clsS_inj hok8 clT_ok hs8; have hp := hp.comp hk
 refine GL_rd (v := .tuple _) (wn_none rfl) rfl (rd_move rfl rfl) ?_
 refine GL_rd (v := .pointer (some ⟨_, _, none⟩)) (wn_none rfl) rfl (rd_extract rfl rfl rfl) ?_
 refine GL_rd (v := .int _ _) (wn_none rfl) rfl (rd_extract rfl rfl rfl) ?_
 refine GL_rd (v := .pointer (some ⟨_, _, none⟩)) (wn_none rfl) rfl (rd_assign rfl rfl) ?_
 refine GL_rd (v := .int _ _) (wn_none rfl) rfl (rd_assign rfl rfl) ?_
 refine GL_nil ?_
 refine GW_seq ?_
 refine GW_region ?_
 refine GL_rd (wn_none rfl) rfl (rd_buildA (L := bys (List.replicate 256 0)) rfl tz67 Try.underlying67 ts5 (by kernel_rfl)) ?_
 refine GL_call (wn_none rfl) rfl rfl (cl_Read (List.replicate 256 0) _ List.length_replicate) rfl ?_
 intro v w hor
 obtain ⟨rfl, hk, _⟩ := hor.resolve_right (by rintro ⟨_, _, _, l9, _, hok9, hs9, _⟩; exact holds_zero (cls_at hok9 hs9).1); have hp := hp.comp hk
 refine GL_rd (v := .tuple _) (wn_none rfl) rfl (rd_move rfl rfl) ?_
 refine GL_rd (v := .pointer _) (wn_none rfl) rfl (rd_extract rfl rfl rfl) ?_
 refine GL_rd (v := .int _ _) (wn_none rfl) rfl (rd_extract rfl rfl rfl) ?_
 refine GL_rd (v := .pointer _) (wn_none rfl) rfl (rd_assign rfl rfl) ?_
 refine GL_rd (v := .int _ _) (wn_none rfl) rfl (rd_assign rfl rfl) ?_
 refine GL_nil ?_
 refine GW_seq ?_
 refine GW_seq ?_
 refine GW_region ?_
 refine GL_rd (v := .pointer (some ⟨_, _, none⟩)) (wn_none rfl) rfl (rd_move rfl rfl) ?_
 refine GL_rd (wn_none rfl) rfl (rd_bin rfl rfl rfl (bo_pnil Try.underlying89)) ?_
 refine GL_nil ?_
 refine GW_false rfl ?_
 refine GW_skip ?_
 refine GW_seq ?_
 refine GW_region ?_
 refine GL_rd (v := .pointer (some ⟨_, _, none⟩)) (wn_none rfl) rfl (rd_move rfl rfl) ?_
 refine GL_call (wn_none rfl) rfl rfl (cl_Get g2 m2 _ _ [clT 12] 0 _ (hp.get 0 rfl) (Sl.row (hp.get 1 rfl)) (hp.get 2 rfl)) rfl ?_
 rintro _ w ⟨rfl, hk⟩
 have hp := hp.comp hk
 rw [if_pos (by decide), decide_eq_true (by decide)]
 refine GL_rd (v := .tuple _) (wn_none rfl) rfl (rd_move rfl rfl) ?_
 refine GL_rd (v := .agg ⟨_⟩) (wn_none rfl) rfl (rd_extract rfl rfl rfl) ?_
 refine GL_rd (v := .bool _) (wn_none rfl) rfl (rd_extract rfl rfl rfl) ?_
 refine GL_alloc (wn_none rfl) rfl rfl tz97 rfl hp ?_
 intro g w hp
 refine GL_store (i := 0) (wn_none rfl) rfl rfl rfl rfl ts97 rfl rfl (clC_one _) hp rfl (by decide) rfl ?_
 intro w hp
 refine GL_rd (v := .bool _) (wn_none rfl) rfl (rd_assign rfl rfl) ?_
 refine GL_nil ?_
 refine GW_seq ?_
 refine GW_region ?_
 refine GL_rd (v := .pointer (some ⟨_, _, none⟩)) (wn_none rfl) rfl (rd_move rfl rfl) ?_
 refine GL_call (wn_none rfl) rfl rfl (cl_Find g2 m2 _ _ [clT 12] taxN _ (hp.get 1 rfl) (Sl.row (hp.get 2 rfl)) (hp.get 3 rfl)) rfl ?_
 rintro _ w ⟨rfl, hk⟩
 have hp := hp.comp hk
 rw [show findI [clT 12] taxN = some 0 from by decide]
 refine GL_rd (v := .tuple _) (wn_none rfl) rfl (rd_move rfl rfl) ?_
 refine GL_rd (v := .int _ _) (wn_none rfl) rfl (rd_extract rfl rfl rfl) ?_
 refine GL_rd (v := .bool _) (wn_none rfl) rfl (rd_extract rfl rfl rfl) ?_
 refine GL_rd (v := .int _ _) (wn_none rfl) rfl (rd_assign rfl rfl) ?_
 refine GL_rd (v := .bool _) (wn_none rfl) rfl (rd_assign rfl rfl) ?_
 refine GL_nil ?_
 refine GW_seq ?_
 refine GW_region ?_
 refine GL_rd (v := .pointer (some ⟨_, _, none⟩)) (wn_none rfl) rfl (rd_move rfl rfl) ?_
 refine GL_call (wn_none rfl) rfl rfl (cl_Copy g2 m2 _ _ [clT 12] _ (hp.get 1 rfl) (Sl.row (hp.get 2 rfl)) (hp.get 3 rfl) clT_ok clT_ok.sizes) rfl ?_
 rintro _ w ⟨g3, m3, sv3, rfl, hk⟩
 have hp := hp.comp hk
 refine GL_rd (v := .pointer (some ⟨_, _, none⟩)) (wn_none rfl) rfl (rd_assign rfl rfl) ?_
 refine GL_nil ?_
 refine GW_seq ?_
 refine GW_region ?_
 refine GL_rd (v := .int _ _) (wn_none rfl) rfl (rd_move rfl rfl) ?_
 refine GL_rd (wn_none rfl) rfl (rd_bin rfl rfl rfl bo_eql) ?_
 refine GL_rd (v := .bool _) (wn_none rfl) rfl (rd_move rfl rfl) ?_
 refine GL_split (t := 55) (b := _) rfl ?_ ?_
 ·intro hb; (try simp only [decide_eq_true_eq, decide_eq_false_iff_not, Bool.not_eq_true', Bool.not_eq_false', Bool.not_eq_eq_eq_not, Bool.not_true, Bool.not_false, Int.not_lt, Int.not_le] at hb)
  refine GL_rd (v := .int _ _) (wn_on rfl rfl rfl rfl) rfl (rd_move rfl rfl) ?_
  refine GL_rd (wn_on rfl rfl rfl rfl) rfl (rd_bin rfl rfl rfl bo_eql) ?_
  refine GL_rd (v := .bool _) (wn_none rfl) rfl (rd_pickT rfl rfl rfl) ?_
  refine GL_rd (v := .bool _) (wn_none rfl) rfl (rd_move rfl rfl) ?_
  refine GL_split (t := 59) (b := _) rfl ?_ ?_
  ·intro hb2; (try simp only [decide_eq_true_eq, decide_eq_false_iff_not, Bool.not_eq_true', Bool.not_eq_false', Bool.not_eq_eq_eq_not, Bool.not_true, Bool.not_false, Int.not_lt, Int.not_le] at hb2)
   refine GL_rd (v := .int _ _) (wn_on rfl rfl rfl rfl) rfl (rd_move rfl rfl) ?_
   refine GL_rd (wn_on rfl rfl rfl rfl) rfl (rd_bin rfl rfl rfl bo_eql) ?_
   refine GL_rd (v := .bool _) (wn_none rfl) rfl (rd_pickT rfl rfl rfl) ?_
   refine GL_rd (v := .bool _) (wn_none rfl) rfl (rd_move rfl rfl) ?_
   refine GL_split (t := 63) (b := _) rfl ?_ ?_
   ·intro hb3; (try simp only [decide_eq_true_eq, decide_eq_false_iff_not, Bool.not_eq_true', Bool.not_eq_false', Bool.not_eq_eq_eq_not, Bool.not_true, Bool.not_false, Int.not_lt, Int.not_le] at hb3)
    refine GL_rd (v := .int _ _) (wn_on rfl rfl rfl rfl) rfl (rd_move rfl rfl) ?_
    refine GL_rd (wn_on rfl rfl rfl rfl) rfl (rd_bin rfl rfl rfl bo_eql) ?_
    refine GL_rd (v := .bool _) (wn_none rfl) rfl (rd_pickT rfl rfl rfl) ?_
    refine GL_rd (v := .bool _) (wn_none rfl) rfl (rd_move rfl rfl) ?_
    refine GL_split (t := 67) (b := _) rfl ?_ ?_
    ·intro hb4; (try simp only [decide_eq_true_eq, decide_eq_false_iff_not, Bool.not_eq_true', Bool.not_eq_false', Bool.not_eq_eq_eq_not, Bool.not_true, Bool.not_false, Int.not_lt, Int.not_le] at hb4)
     refine GL_rd (v := .int _ _) (wn_on rfl rfl rfl rfl) rfl (rd_move rfl rfl) ?_
     refine GL_rd (wn_on rfl rfl rfl rfl) rfl (rd_bin rfl rfl rfl bo_eql) ?_
     refine GL_rd (v := .bool _) (wn_none rfl) rfl (rd_pickT rfl rfl rfl) ?_
     refine GL_rd (v := .bool _) (wn_none rfl) rfl (rd_move rfl rfl) ?_
     refine GL_split (t := 71) (b := _) rfl ?_ ?_
     ·intro hb5; (try simp only [decide_eq_true_eq, decide_eq_false_iff_not, Bool.not_eq_true', Bool.not_eq_false', Bool.not_eq_eq_eq_not, Bool.not_true, Bool.not_false, Int.not_lt, Int.not_le] at hb5)
      refine GL_rd (v := .int _ _) (wn_on rfl rfl rfl rfl) rfl (rd_move rfl rfl) ?_
      refine GL_rd (wn_on rfl rfl rfl rfl) rfl (rd_bin rfl rfl rfl bo_eql) ?_
      refine GL_rd (v := .bool _) (wn_none rfl) rfl (rd_pickT rfl rfl rfl) ?_
      refine GL_rd (v := .bool _) (wn_none rfl) rfl (rd_move rfl rfl) ?_
      refine GL_split (t := 75) (b := _) rfl ?_ ?_
      ·intro hb6; (try simp only [decide_eq_true_eq, decide_eq_false_iff_not, Bool.not_eq_true', Bool.not_eq_false', Bool.not_eq_eq_eq_not, Bool.not_true, Bool.not_false, Int.not_lt, Int.not_le] at hb6)
       refine GL_rd (v := .bool _) (wn_on rfl rfl rfl rfl) rfl (rd_move rfl rfl) ?_
       refine GL_rd (v := .bool _) (wn_none rfl) rfl (rd_pickT rfl rfl rfl) ?_
       refine GL_rd (v := .bool _) (wn_none rfl) rfl (rd_move rfl rfl) ?_
       refine GL_rd (wn_on rfl rfl rfl rfl) rfl (rd_field rfl rfl fa97_1 _ rfl) ?_
       refine GL_rd (wn_on rfl rfl rfl rfl) rfl (rd_load rfl rfl Try.underlying3 rfl ((cell_of_cells (hp.get 3 rfl) _).trans rfl)) ?_
       refine GL_rd (wn_on rfl rfl rfl rfl) rfl (rd_bin rfl rfl rfl bo_eql) ?_
       refine GL_rd (v := .bool _) (wn_none rfl) rfl (rd_pickT rfl rfl rfl) ?_
       refine GL_rd (v := .bool _) (wn_none rfl) rfl (rd_move rfl rfl) ?_
       refine GL_split (t := 83) (b := _) rfl ?_ ?_
       ·intro hb7; (try simp only [decide_eq_true_eq, decide_eq_false_iff_not, Bool.not_eq_true', Bool.not_eq_false', Bool.not_eq_eq_eq_not, Bool.not_true, Bool.not_false, Int.not_lt, Int.not_le] at hb7)
        refine GL_rd (wn_on rfl rfl rfl rfl) rfl (rd_field rfl rfl fa97_3 _ rfl) ?_
        refine GL_rd (wn_on rfl rfl rfl rfl) rfl (rd_load rfl rfl Try.underlying4 rfl ((cell_of_cells (hp.get 3 rfl) _).trans rfl)) ?_
        refine GL_rd (v := .bool _) (wn_none rfl) rfl (rd_pickT rfl rfl rfl) ?_
        refine GL_rd (v := .bool _) (wn_none rfl) rfl (rd_move rfl rfl) ?_
        refine GL_rd (v := .bool _) (wn_on rfl rfl rfl rfl) rfl (rd_move rfl rfl) ?_
        refine GL_rd (v := .bool _) (wn_none rfl) rfl (rd_pickT rfl rfl rfl) ?_
        refine GL_rd (v := .bool _) (wn_none rfl) rfl (rd_move rfl rfl) ?_
        refine GL_rd (v := .int _ _) (wn_on rfl rfl rfl rfl) rfl (rd_move rfl rfl) ?_
        refine GL_rd (wn_on rfl rfl rfl rfl) rfl (rd_bin rfl rfl rfl bo_eql) ?_
        refine GL_rd (v := .bool _) (wn_none rfl) rfl (rd_pickT rfl rfl rfl) ?_
        refine GL_rd (v := .bool _) (wn_none rfl) rfl (rd_move rfl rfl) ?_
        refine GL_split (t := 94) (b := _) rfl ?_ ?_
        ·intro hb8; (try simp only [decide_eq_true_eq, decide_eq_false_iff_not, Bool.not_eq_true', Bool.not_eq_false', Bool.not_eq_eq_eq_not, Bool.not_true, Bool.not_false, Int.not_lt, Int.not_le] at hb8)
         refine GL_rd (v := .pointer (some ⟨_, _, none⟩)) (wn_on rfl rfl rfl rfl) rfl (rd_move rfl rfl) ?_
         refine GL_rd (wn_on rfl rfl rfl rfl) rfl (rd_bin rfl rfl rfl (bo_pnnil Try.underlying89)) ?_
         refine GL_rd (v := .bool _) (wn_none rfl) rfl (rd_pickT rfl rfl rfl) ?_
         refine GL_rd (v := .bool _) (wn_none rfl) rfl (rd_move rfl rfl) ?_
         refine GL_rd (v := .pointer (some ⟨_, _, none⟩)) (wn_on rfl rfl rfl rfl) rfl (rd_move rfl rfl) ?_
         refine GL_call (wn_on rfl rfl rfl rfl) rfl rfl (cl_Len g3 m3 _ _ [clT 12] _ (hp.get 0 rfl) (Sl.row (hp.get 1 rfl)) (hp.get 2 rfl)) rfl ?_
         rintro _ w ⟨rfl, hk⟩
         have hp := hp.comp hk
         refine GL_rd (wn_on rfl rfl rfl rfl) rfl (rd_bin rfl rfl rfl bo_eql) ?_
         refine GL_rd (v := .bool _) (wn_none rfl) rfl (rd_pickT rfl rfl rfl) ?_
         refine GL_rd (v := .bool _) (wn_none rfl) rfl (rd_move rfl rfl) ?_
         refine GL_split (t := 103) (b := _) rfl ?_ ?_
         ·intro hb9; (try simp only [decide_eq_true_eq, decide_eq_false_iff_not, Bool.not_eq_true', Bool.not_eq_false', Bool.not_eq_eq_eq_not, Bool.not_true, Bool.not_false, Int.not_lt, Int.not_le] at hb9)
          refine GL_rd (v := .pointer (some ⟨_, _, none⟩)) (wn_on rfl rfl rfl rfl) rfl (rd_move rfl rfl) ?_
          refine GL_call (wn_on rfl rfl rfl rfl) rfl rfl (cl_All g2 m2 _ _ [clT 12] _ (hp.get 4 rfl) (Sl.row (hp.get 5 rfl)) (hp.get 6 rfl) (by decide)) rfl ?_
          intro va w hk
          have hp := hp.comp hk
          obtain ⟨Aa, ca, rfl⟩ := row_shape (hp.get 0 rfl)
          refine GL_rd (wn_on rfl rfl rfl rfl) rfl (rd_len rfl rfl Try.underlying90) ?_
          refine GL_rd (wn_on rfl rfl rfl rfl) rfl (rd_bin rfl rfl rfl bo_eql) ?_
          refine GL_rd (v := .bool _) (wn_none rfl) rfl (rd_pickT rfl rfl rfl) ?_
          refine GL_rd (v := .bool _) (wn_none rfl) rfl (rd_move rfl rfl) ?_
          refine GL_split (t := 109) (b := _) rfl ?_ ?_
          ·intro hb10; (try simp only [decide_eq_true_eq, decide_eq_false_iff_not, Bool.not_eq_true', Bool.not_eq_false', Bool.not_eq_eq_eq_not, Bool.not_true, Bool.not_false, Int.not_lt, Int.not_le] at hb10)
           refine GL_rd (wn_on rfl rfl rfl rfl) rfl (rd_buildS (L := clC ⟨⟨#[65]⟩, 0, false, false⟩) rfl tz97 pl97 (by kernel_rfl)) ?_
           refine GL_call (wn_on rfl rfl rfl rfl) rfl rfl (cl_Check ⟨⟨#[65]⟩, 0, false, false⟩ _ (by decide)) rfl ?_
           rintro _ w ⟨rfl, hk⟩
           have hp := hp.comp hk
           refine GL_rd (wn_on rfl rfl rfl rfl) rfl (rd_bin rfl rfl rfl bo_eql) ?_
           refine GL_rd (v := .bool _) (wn_none rfl) rfl (rd_pickT rfl rfl rfl) ?_
           refine GL_rd (v := .bool _) (wn_none rfl) rfl (rd_move rfl rfl) ?_
           refine GL_split (t := 114) (b := _) rfl ?_ ?_
           ·intro hb11; (try simp only [decide_eq_true_eq, decide_eq_false_iff_not, Bool.not_eq_true', Bool.not_eq_false', Bool.not_eq_eq_eq_not, Bool.not_true, Bool.not_false, Int.not_lt, Int.not_le] at hb11)
            refine GL_call (wn_on rfl rfl rfl rfl) rfl rfl (cl_Name ⟨#[97, 45, 49]⟩ _ (by decide)) rfl ?_
            rintro _ w ⟨rfl, hk⟩
            have hp := hp.comp hk
            refine GL_rd (wn_on rfl rfl rfl rfl) rfl (rd_bin rfl rfl rfl bo_eql) ?_
            refine GL_rd (v := .bool _) (wn_none rfl) rfl (rd_pickT rfl rfl rfl) ?_
            refine GL_rd (v := .bool _) (wn_none rfl) rfl (rd_assign rfl rfl) ?_
            refine GL_nil ?_
            refine GW_ret ?_
            exact ⟨_, res1 Try.results56 (rv_tmp (v := .bool _) rfl rfl), rfl, hp.mods⟩
           ·intro hb11; (try simp only [decide_eq_true_eq, decide_eq_false_iff_not, Bool.not_eq_true', Bool.not_eq_false', Bool.not_eq_eq_eq_not, Bool.not_true, Bool.not_false, Int.not_lt, Int.not_le] at hb11)
            all_goals first | exact absurd rfl hb11 | exact absurd trivial hb11 | exact absurd hb11 (by decide) | exact absurd (by decide) hb11 | exact absurd hb11 (by simp)
          ·intro hb10; (try simp only [decide_eq_true_eq, decide_eq_false_iff_not, Bool.not_eq_true', Bool.not_eq_false', Bool.not_eq_eq_eq_not, Bool.not_true, Bool.not_false, Int.not_lt, Int.not_le] at hb10)
           all_goals first | exact absurd rfl hb10 | exact absurd trivial hb10 | exact absurd hb10 (by decide) | exact absurd (by decide) hb10 | exact absurd hb10 (by simp)
         ·intro hb9; (try simp only [decide_eq_true_eq, decide_eq_false_iff_not, Bool.not_eq_true', Bool.not_eq_false', Bool.not_eq_eq_eq_not, Bool.not_true, Bool.not_false, Int.not_lt, Int.not_le] at hb9)
          all_goals first | exact absurd rfl hb9 | exact absurd trivial hb9 | exact absurd hb9 (by decide) | exact absurd (by decide) hb9 | exact absurd hb9 (by simp)
        ·intro hb8; (try simp only [decide_eq_true_eq, decide_eq_false_iff_not, Bool.not_eq_true', Bool.not_eq_false', Bool.not_eq_eq_eq_not, Bool.not_true, Bool.not_false, Int.not_lt, Int.not_le] at hb8)
         all_goals first | exact absurd rfl hb8 | exact absurd trivial hb8 | exact absurd hb8 (by decide) | exact absurd (by decide) hb8 | exact absurd hb8 (by simp)
       ·intro hb7; (try simp only [decide_eq_true_eq, decide_eq_false_iff_not, Bool.not_eq_true', Bool.not_eq_false', Bool.not_eq_eq_eq_not, Bool.not_true, Bool.not_false, Int.not_lt, Int.not_le] at hb7)
        all_goals first | exact absurd rfl hb7 | exact absurd trivial hb7 | exact absurd hb7 (by decide) | exact absurd (by decide) hb7 | exact absurd hb7 (by simp)
      ·intro hb6; (try simp only [decide_eq_true_eq, decide_eq_false_iff_not, Bool.not_eq_true', Bool.not_eq_false', Bool.not_eq_eq_eq_not, Bool.not_true, Bool.not_false, Int.not_lt, Int.not_le] at hb6)
       all_goals first | exact absurd rfl hb6 | exact absurd trivial hb6 | exact absurd hb6 (by decide) | exact absurd (by decide) hb6 | exact absurd hb6 (by simp)
     ·intro hb5; (try simp only [decide_eq_true_eq, decide_eq_false_iff_not, Bool.not_eq_true', Bool.not_eq_false', Bool.not_eq_eq_eq_not, Bool.not_true, Bool.not_false, Int.not_lt, Int.not_le] at hb5)
      all_goals first | exact absurd rfl hb5 | exact absurd trivial hb5 | exact absurd hb5 (by decide) | exact absurd (by decide) hb5 | exact absurd hb5 (by simp)
    ·intro hb4; (try simp only [decide_eq_true_eq, decide_eq_false_iff_not, Bool.not_eq_true', Bool.not_eq_false', Bool.not_eq_eq_eq_not, Bool.not_true, Bool.not_false, Int.not_lt, Int.not_le] at hb4)
     all_goals first | exact absurd rfl hb4 | exact absurd trivial hb4 | exact absurd hb4 (by decide) | exact absurd (by decide) hb4 | exact absurd hb4 (by simp)
   ·intro hb3; (try simp only [decide_eq_true_eq, decide_eq_false_iff_not, Bool.not_eq_true', Bool.not_eq_false', Bool.not_eq_eq_eq_not, Bool.not_true, Bool.not_false, Int.not_lt, Int.not_le] at hb3)
    all_goals first | exact absurd rfl hb3 | exact absurd trivial hb3 | exact absurd hb3 (by decide) | exact absurd (by decide) hb3 | exact absurd hb3 (by simp)
  ·intro hb2; (try simp only [decide_eq_true_eq, decide_eq_false_iff_not, Bool.not_eq_true', Bool.not_eq_false', Bool.not_eq_eq_eq_not, Bool.not_true, Bool.not_false, Int.not_lt, Int.not_le] at hb2)
   all_goals first | exact absurd rfl hb2 | exact absurd trivial hb2 | exact absurd hb2 (by decide) | exact absurd (by decide) hb2 | exact absurd hb2 (by simp)
 ·intro hb; (try simp only [decide_eq_true_eq, decide_eq_false_iff_not, Bool.not_eq_true', Bool.not_eq_false', Bool.not_eq_eq_eq_not, Bool.not_true, Bool.not_false, Int.not_lt, Int.not_le] at hb)
  all_goals first | exact absurd rfl hb | exact absurd trivial hb | exact absurd hb (by decide) | exact absurd (by decide) hb | exact absurd hb (by simp)

theorem law_ClassBack (so : Value) (k : Nat) (l : List (Int × Cls)) (x : List UInt8) (w0 : World) (hs : Sl w0 so 5 k (l.flatMap opC)) (hx : x.length = 256) : Does Try.prog 12 #[so, .agg ⟨bys x⟩] w0 fun v w' => v = .bool true ∧ Hp w0 [] w' [] := by
 obtain ⟨A, c0, rfl⟩ := sl_shape hs
 have hlo := flat_len opC_len (by decide) hs.len
 subst hlo
 have hmle := hs.le
 refine does_of (l := [.slice A l.length c0, .agg ⟨bys x⟩]) Try.func12 (by kernel_rfl) rfl Try.ntmps12 rfl rfl ?_
 have hp := Hp.refl w0 []
 refine GW_seq ?_
 refine GW_region ?_
 refine GL_box (wn_none rfl) rfl rfl rfl rfl hp ?_
 intro g w hp
 refine GL_rd (v := .bool _) (wn_none rfl) rfl (rd_assign rfl rfl) ?_
 refine GL_nil ?_
 refine GW_seq ?_
 refine GW_seq ?_
 refine GW_region ?_
 refine GL_rd (v := .slice _ _ _) (wn_none rfl) rfl (rd_move rfl rfl) ?_
 refine GL_call (wn_none rfl) rfl rfl (cl_light _ _ l _ (hs.keep hp.mod)) rfl ?_
 rintro _ w ⟨rfl, hk⟩
 have hp := hp.comp hk
 refine GL_rd (wn_none rfl) rfl (rd_not rfl rfl) ?_
 refine GL_nil ?_
 refine GW_cond rfl (fun hb => ?_) (fun hb => ?_)
 ·(try simp only [decide_eq_true_eq, decide_eq_false_iff_not, Bool.not_eq_true', Bool.not_eq_false', Bool.not_eq_eq_eq_not, Bool.not_true, Bool.not_false, Int.not_lt, Int.not_le] at hb)
  refine GW_seq ?_
  refine GW_region ?_
  refine GL_call (wn_none rfl) rfl rfl (cl_works _) rfl ?_
  rintro _ w ⟨rfl, hk⟩
  have hp := hp.comp hk
  refine GL_rd (v := .bool _) (wn_none rfl) rfl (rd_assign rfl rfl) ?_
  refine GL_nil ?_
  refine GW_ret ?_
  exact ⟨_, res1 Try.results12 (rv_tmp (v := .bool _) rfl rfl), rfl, hp.mods⟩
 ·(try simp only [decide_eq_true_eq, decide_eq_false_iff_not, Bool.not_eq_true', Bool.not_eq_false', Bool.not_eq_eq_eq_not, Bool.not_true, Bool.not_false, Int.not_lt, Int.not_le] at hb)
  have hlit : lightB l = true := hb
  refine GW_skip ?_
  refine GW_seq ?_
  refine GW_region ?_
  refine GL_rd (v := .slice _ _ _) (wn_none rfl) rfl (rd_move rfl rfl) ?_
  refine GL_call (wn_none rfl) rfl rfl (cl_made _ _ l _ (hs.keep hp.mod) hlit) rfl ?_
  rintro _ w ⟨gq, mq, sv2, mv, r, L, rfl, hok, hmv, hk⟩
  have hp := hp.comp hk
  obtain ⟨Am, cm, rfl⟩ := sl_shape (hmv _ (hp.get 0 rfl))
  have h8 := hok.1
  refine GL_rd (v := .tuple _) (wn_none rfl) rfl (rd_move rfl rfl) ?_
  refine GL_rd (v := .pointer (some ⟨_, _, none⟩)) (wn_none rfl) rfl (rd_extract rfl rfl rfl) ?_
  refine GL_rd (v := _) (wn_none rfl) rfl (rd_extract rfl rfl rfl) ?_
  refine GL_rd (v := .bool _) (wn_none rfl) rfl (rd_extract rfl rfl rfl) ?_
  refine GL_rd (v := .pointer (some ⟨_, _, none⟩)) (wn_none rfl) rfl (rd_assign rfl rfl) ?_
  refine GL_rd (v := _) (wn_none rfl) rfl (rd_assign rfl rfl) ?_
  refine GL_rd (v := .bool _) (wn_none rfl) rfl (rd_assign rfl rfl) ?_
  refine GL_nil ?_
  refine GW_seq ?_
  refine GW_seq ?_
  refine GW_region ?_
  refine GL_rd (v := .bool _) (wn_none rfl) rfl (rd_move rfl rfl) ?_
  refine GL_rd (wn_none rfl) rfl (rd_not rfl rfl) ?_
  refine GL_nil ?_
  refine GW_false rfl ?_
  refine GW_skip ?_
  refine GW_seq ?_
  refine GW_region ?_
  refine GL_rd (v := .pointer (some ⟨_, _, none⟩)) (wn_none rfl) rfl (rd_move rfl rfl) ?_
  refine GL_call (wn_none rfl) rfl rfl (cl_Put gq mq _ _ L _ (hp.get 1 rfl) (Sl.row (hp.get 2 rfl)) (hp.get 3 rfl) hok) rfl ?_
  rintro _ w ⟨rfl, hk⟩
  have hp := hp.comp hk
  refine GL_call (wn_none rfl) rfl rfl (cl_Read (clsS L) _ (clsS_length _)) rfl ?_
  intro v w hor
  obtain ⟨g2, m2, sv8, l8, rfl, hok8, hs8, hk8⟩ := hor.resolve_left (fun q => q.2.2 _ hok rfl); obtain rfl := clsS_inj hok8 hok hs8; have hp := hp.comp hk8
  refine GL_rd (v := .tuple _) (wn_none rfl) rfl (rd_move rfl rfl) ?_
  refine GL_rd (v := .pointer (some ⟨_, _, none⟩)) (wn_none rfl) rfl (rd_extract rfl rfl rfl) ?_
  refine GL_rd (v := .int _ _) (wn_none rfl) rfl (rd_extract rfl rfl rfl) ?_
  refine GL_rd (v := .pointer (some ⟨_, _, none⟩)) (wn_none rfl) rfl (rd_assign rfl rfl) ?_
  refine GL_rd (v := .int _ _) (wn_none rfl) rfl (rd_assign rfl rfl) ?_
  refine GL_nil ?_
  refine GW_seq ?_
  refine GW_seq ?_
  refine GW_region ?_
  refine GL_rd (v := .pointer (some ⟨_, _, none⟩)) (wn_none rfl) rfl (rd_move rfl rfl) ?_
  refine GL_call (wn_none rfl) rfl rfl (cl_Put gq mq _ _ l8 _ (hp.get 4 rfl) (Sl.row (hp.get 5 rfl)) (hp.get 6 rfl) hok) rfl ?_
  rintro _ w ⟨rfl, hk⟩
  have hp := hp.comp hk
  refine GL_rd (v := _) (wn_none rfl) rfl (rd_move rfl rfl) ?_
  refine GL_call (wn_none rfl) rfl rfl (ref_clPut _ _ l8 _ (hmv _ (hp.get 3 rfl)) (by omega) hok) rfl ?_
  rintro _ w ⟨rfl, hk⟩
  have hp := hp.comp hk
  refine GL_rd (wn_none rfl) rfl (rd_bin rfl rfl rfl (bo_arrB Try.underlying67 Try.underlying5 ts5 (by kernel_rfl) (clsS_length _) (clsS_length _)).2) ?_
  refine GL_rd (v := .bool _) (wn_none rfl) rfl (rd_move rfl rfl) ?_
  refine GL_split (t := 35) (b := _) rfl ?_ ?_
  ·intro hb2; (try simp only [decide_eq_true_eq, decide_eq_false_iff_not, Bool.not_eq_true', Bool.not_eq_false', Bool.not_eq_eq_eq_not, Bool.not_true, Bool.not_false, Int.not_lt, Int.not_le] at hb2)
   all_goals first | exact absurd rfl hb2 | exact absurd trivial hb2 | exact absurd hb2 (by decide) | exact absurd (by decide) hb2 | exact absurd hb2 (by simp)
  ·intro hb2; (try simp only [decide_eq_true_eq, decide_eq_false_iff_not, Bool.not_eq_true', Bool.not_eq_false', Bool.not_eq_eq_eq_not, Bool.not_true, Bool.not_false, Int.not_lt, Int.not_le] at hb2)
   refine GL_rd (v := .int _ _) (wn_on rfl rfl rfl rfl) rfl (rd_move rfl rfl) ?_
   refine GL_rd (wn_on rfl rfl rfl rfl) rfl (rd_bin rfl rfl rfl bo_neq) ?_
   refine GL_rd (v := .bool _) (wn_none rfl) rfl (rd_pickF rfl rfl rfl) ?_
   refine GL_rd (v := .bool _) (wn_none rfl) rfl (rd_move rfl rfl) ?_
   refine GL_split (t := 39) (b := _) rfl ?_ ?_
   ·intro hb3; (try simp only [decide_eq_true_eq, decide_eq_false_iff_not, Bool.not_eq_true', Bool.not_eq_false', Bool.not_eq_eq_eq_not, Bool.not_true, Bool.not_false, Int.not_lt, Int.not_le] at hb3)
    all_goals first | exact absurd rfl hb3 | exact absurd trivial hb3 | exact absurd hb3 (by decide) | exact absurd (by decide) hb3 | exact absurd hb3 (by simp)
   ·intro hb3; (try simp only [decide_eq_true_eq, decide_eq_false_iff_not, Bool.not_eq_true', Bool.not_eq_false', Bool.not_eq_eq_eq_not, Bool.not_true, Bool.not_false, Int.not_lt, Int.not_le] at hb3)
    refine GL_rd (v := .pointer (some ⟨_, _, none⟩)) (wn_on rfl rfl rfl rfl) rfl (rd_move rfl rfl) ?_
    refine GL_rd (wn_on rfl rfl rfl rfl) rfl (rd_bin rfl rfl rfl (bo_pnil Try.underlying89)) ?_
    refine GL_rd (v := .bool _) (wn_none rfl) rfl (rd_pickF rfl rfl rfl) ?_
    refine GL_rd (v := .bool _) (wn_none rfl) rfl (rd_move rfl rfl) ?_
    refine GL_rd (v := .pointer (some ⟨_, _, none⟩)) (wn_on rfl rfl rfl rfl) rfl (rd_move rfl rfl) ?_
    refine GL_call (wn_on rfl rfl rfl rfl) rfl rfl (cl_All g2 m2 _ _ l8 _ (hp.get 0 rfl) (Sl.row (hp.get 1 rfl)) (hp.get 2 rfl) (by omega)) rfl ?_
    intro va w hk
    have hp := hp.comp hk
    refine GL_rd (v := _) (wn_on rfl rfl rfl rfl) rfl (rd_move rfl rfl) ?_
    refine GL_call (wn_on rfl rfl rfl rfl) rfl rfl (ref_clSame _ _ _ _ l8 l8 _ (Sl.row (hp.get 0 rfl)) (hmv _ (hp.get 4 rfl)) rfl) rfl ?_
    rintro _ w ⟨rfl, hk⟩
    have hp := hp.comp hk
    refine GL_rd (wn_on rfl rfl rfl rfl) rfl (rd_not rfl rfl) ?_
    refine GL_rd (v := .bool _) (wn_none rfl) rfl (rd_pickF rfl rfl rfl) ?_
    refine GL_nil ?_
    refine GW_false rfl ?_
    refine GW_skip ?_
    refine GW_seq ?_
    rcases Classical.em (∃ l, ClsOk l ∧ clsS l = x) with hex | hno
    ·skip
     refine GW_region ?_
     refine GL_rd (wn_none rfl) rfl (rd_loadC rfl rfl Try.underlying67 rfl ts67 (hp.get 8 rfl) (by rw [bys_length, hx])) ?_
     refine GL_call (wn_none rfl) rfl rfl (cl_Read x _ hx) rfl ?_
     intro v w hor
     obtain ⟨g3, m3, sv9, l9, rfl, hok9, hs9, hk⟩ := hor.resolve_left (fun q => by obtain ⟨l, h1, h2⟩ := hex; exact q.2.2 l h1 h2); have hp := hp.comp hk
     refine GL_rd (v := .tuple _) (wn_none rfl) rfl (rd_move rfl rfl) ?_
     refine GL_rd (v := .pointer (some ⟨_, _, none⟩)) (wn_none rfl) rfl (rd_extract rfl rfl rfl) ?_
     refine GL_rd (v := .int _ _) (wn_none rfl) rfl (rd_extract rfl rfl rfl) ?_
     refine GL_rd (v := .pointer (some ⟨_, _, none⟩)) (wn_none rfl) rfl (rd_assign rfl rfl) ?_
     refine GL_rd (v := .int _ _) (wn_none rfl) rfl (rd_assign rfl rfl) ?_
     refine GL_nil ?_
     refine GW_seq ?_
     refine GW_seq ?_
     refine GW_region ?_
     refine GL_rd (v := .int _ _) (wn_none rfl) rfl (rd_move rfl rfl) ?_
     refine GL_rd (wn_none rfl) rfl (rd_bin rfl rfl rfl bo_neq) ?_
     refine GL_nil ?_
     refine GW_cond rfl (fun hb4 => ?_) (fun hb4 => ?_)
     ·(try simp only [decide_eq_true_eq, decide_eq_false_iff_not, Bool.not_eq_true', Bool.not_eq_false', Bool.not_eq_eq_eq_not, Bool.not_true, Bool.not_false, Int.not_lt, Int.not_le] at hb4)
      all_goals first | exact absurd rfl hb4 | exact absurd trivial hb4 | exact absurd hb4 (by decide) | exact absurd (by decide) hb4 | exact absurd hb4 (by simp)
     ·(try simp only [decide_eq_true_eq, decide_eq_false_iff_not, Bool.not_eq_true', Bool.not_eq_false', Bool.not_eq_eq_eq_not, Bool.not_true, Bool.not_false, Int.not_lt, Int.not_le] at hb4)
      refine GW_skip ?_
      refine GW_seq ?_
      refine GW_drawnK 12 (.one 0 true (.one 1 true (.one 2 true (.one 3 true (.one 5 true (.one 4 false (.one 6 true (.one 7 true (.one 8 true (.one 9 false (.one 10 true (.one 11 true .nil)))))))))))) mixed (by kernel_rfl) hp (fun _ h => h) fun w hp => ?_
      have hpS := hp
      refine GO_rdT (v := .pointer (some ⟨_, _, none⟩)) rfl (wn_none rfl) rfl (fun w => (rd_move rfl rfl)) ?_
      refine GO_rd rfl rfl (wn_none rfl) rfl hpS (fun w hp => (rd_bin rfl rfl rfl (bo_pnnil Try.underlying89))) ?_
      refine GO_rdT (v := .bool _) rfl (wn_none rfl) rfl (fun w => (rd_move rfl rfl)) ?_
      refine GO_rdT (v := .pointer (some ⟨_, _, none⟩)) rfl (wn_on rfl rfl rfl rfl) rfl (fun w => (rd_move rfl rfl)) ?_
      refine GO_rd rfl rfl (wn_on rfl rfl rfl rfl) rfl hpS (fun w hp => (rd_loadC rfl rfl Try.underlying67 rfl ts67 (hp.get 11 rfl) (by rw [bys_length, hx]))) ?_
      refine GO_of_GL rfl ?_
      refine GL_call (wn_on rfl rfl rfl rfl) rfl rfl (cl_Put g3 m3 _ _ l9 _ (hp.get 0 rfl) (Sl.row (hp.get 1 rfl)) (hp.get 2 rfl) hok9) rfl ?_
      rintro _ w ⟨rfl, hk⟩
      have hp := hp.comp hk
      have hpS2 := hp
      refine GL_nil ⟨fun _ => hpS2, ?_⟩
      refine GO_rd rfl rfl (wn_on rfl rfl rfl rfl) rfl hpS2 (fun w hp => (rd_bin rfl rfl rfl (bo_arrB Try.underlying67 Try.underlying5 ts5 (by kernel_rfl) (clsS_length _) hx).1)) ?_
      refine GO_rdT (v := .bool _) rfl (wn_none rfl) rfl (fun w => (rd_pickT rfl rfl rfl)) ?_
      refine GO_rdT (v := .bool _) rfl (wn_none rfl) rfl (fun w => (rd_move rfl rfl)) ?_
      refine GO_split (t := 74) (b := _) rfl ?_ ?_
      ·intro hb5; (try simp only [decide_eq_true_eq, decide_eq_false_iff_not, Bool.not_eq_true', Bool.not_eq_false', Bool.not_eq_eq_eq_not, Bool.not_true, Bool.not_false, Int.not_lt, Int.not_le] at hb5)
       refine GO_of_GL rfl ?_
       refine GL_call (wn_on rfl rfl rfl rfl) rfl rfl (cl_works _) rfl ?_
       rintro _ w ⟨rfl, hk⟩
       have hp := hp.comp hk
       have hpS3 := hp
       refine GL_nil ⟨fun _ => hpS3, ?_⟩
       refine GO_rdT (v := .bool _) rfl (wn_none rfl) rfl (fun w => (rd_pickT rfl rfl rfl)) ?_
       refine GO_rdT (v := .bool _) rfl (wn_none rfl) rfl (fun w => (rd_assign rfl rfl)) ?_
       refine GO_nil ?_
       refine GW_ret ?_
       exact ⟨_, res1 Try.results12 (rv_tmp (v := .bool _) rfl rfl), rfl, hp.mods⟩
      ·intro hb5; (try simp only [decide_eq_true_eq, decide_eq_false_iff_not, Bool.not_eq_true', Bool.not_eq_false', Bool.not_eq_eq_eq_not, Bool.not_true, Bool.not_false, Int.not_lt, Int.not_le] at hb5)
       exact absurd hs9 hb5
    ·skip
     refine GW_region ?_
     refine GL_rd (wn_none rfl) rfl (rd_loadC rfl rfl Try.underlying67 rfl ts67 (hp.get 8 rfl) (by rw [bys_length, hx])) ?_
     refine GL_call (wn_none rfl) rfl rfl (cl_Read x _ hx) rfl ?_
     intro v w hor
     obtain ⟨rfl, hk, _⟩ := hor.resolve_right (by rintro ⟨_, _, _, l9, _, h1, h2, _⟩; exact hno ⟨l9, h1, h2⟩); have hp := hp.comp hk
     refine GL_rd (v := .tuple _) (wn_none rfl) rfl (rd_move rfl rfl) ?_
     refine GL_rd (v := .pointer _) (wn_none rfl) rfl (rd_extract rfl rfl rfl) ?_
     refine GL_rd (v := .int _ _) (wn_none rfl) rfl (rd_extract rfl rfl rfl) ?_
     refine GL_rd (v := .pointer _) (wn_none rfl) rfl (rd_assign rfl rfl) ?_
     refine GL_rd (v := .int _ _) (wn_none rfl) rfl (rd_assign rfl rfl) ?_
     refine GL_nil ?_
     refine GW_seq ?_
     refine GW_seq ?_
     refine GW_region ?_
     refine GL_rd (v := .int _ _) (wn_none rfl) rfl (rd_move rfl rfl) ?_
     refine GL_rd (wn_none rfl) rfl (rd_bin rfl rfl rfl bo_neq) ?_
     refine GL_nil ?_
     refine GW_cond rfl (fun hb6 => ?_) (fun hb6 => ?_)
     ·(try simp only [decide_eq_true_eq, decide_eq_false_iff_not, Bool.not_eq_true', Bool.not_eq_false', Bool.not_eq_eq_eq_not, Bool.not_true, Bool.not_false, Int.not_lt, Int.not_le] at hb6)
      refine GW_seq ?_
      refine GW_region ?_
      refine GL_rd (v := .int _ _) (wn_none rfl) rfl (rd_move rfl rfl) ?_
      refine GL_rd (wn_none rfl) rfl (rd_bin rfl rfl rfl bo_eql) ?_
      refine GL_rd (v := .bool _) (wn_none rfl) rfl (rd_move rfl rfl) ?_
      refine GL_split (t := 59) (b := _) rfl ?_ ?_
      ·intro hb7; (try simp only [decide_eq_true_eq, decide_eq_false_iff_not, Bool.not_eq_true', Bool.not_eq_false', Bool.not_eq_eq_eq_not, Bool.not_true, Bool.not_false, Int.not_lt, Int.not_le] at hb7)
       refine GL_rd (v := .pointer _) (wn_on rfl rfl rfl rfl) rfl (rd_move rfl rfl) ?_
       refine GL_rd (wn_on rfl rfl rfl rfl) rfl (rd_bin rfl rfl rfl (bo_pnn Try.underlying89)) ?_
       refine GL_rd (v := .bool _) (wn_none rfl) rfl (rd_pickT rfl rfl rfl) ?_
       refine GL_rd (v := .bool _) (wn_none rfl) rfl (rd_move rfl rfl) ?_
       refine GL_call (wn_on rfl rfl rfl rfl) rfl rfl (cl_works _) rfl ?_
       rintro _ w ⟨rfl, hk⟩
       have hp := hp.comp hk
       refine GL_rd (v := .bool _) (wn_none rfl) rfl (rd_pickT rfl rfl rfl) ?_
       refine GL_rd (v := .bool _) (wn_none rfl) rfl (rd_assign rfl rfl) ?_
       refine GL_nil ?_
       refine GW_ret ?_
       exact ⟨_, res1 Try.results12 (rv_tmp (v := .bool _) rfl rfl), rfl, hp.mods⟩
      ·intro hb7; (try simp only [decide_eq_true_eq, decide_eq_false_iff_not, Bool.not_eq_true', Bool.not_eq_false', Bool.not_eq_eq_eq_not, Bool.not_true, Bool.not_false, Int.not_lt, Int.not_le] at hb7)
       all_goals first | exact absurd rfl hb7 | exact absurd trivial hb7 | exact absurd hb7 (by decide) | exact absurd (by decide) hb7 | exact absurd hb7 (by simp)
     ·(try simp only [decide_eq_true_eq, decide_eq_false_iff_not, Bool.not_eq_true', Bool.not_eq_false', Bool.not_eq_eq_eq_not, Bool.not_true, Bool.not_false, Int.not_lt, Int.not_le] at hb6)
      all_goals first | exact absurd rfl hb6 | exact absurd trivial hb6 | exact absurd hb6 (by decide) | exact absurd (by decide) hb6 | exact absurd hb6 (by simp)

theorem law_ClassDoes (so : Value) (k : Nat) (l : List (Int × Cls)) (nm : ByteArray) (i : Int) (w0 : World) (hs : Sl w0 so 5 k (l.flatMap opC)) (hnm : nm.size ≤ 140737488351232) : Does Try.prog 10 #[so, .string nm, .int .i64 i] w0 fun v w' => v = .bool true ∧ Hp w0 [] w' [] := by
 obtain ⟨A, c0, rfl⟩ := sl_shape hs
 have hlo := flat_len opC_len (by decide) hs.len
 subst hlo
 have hmle := hs.le
 refine does_of (l := [.slice A l.length c0, .string nm, .int .i64 i]) Try.func10 (by kernel_rfl) rfl Try.ntmps10 rfl rfl ?_
 have hp := Hp.refl w0 []
 refine GW_seq ?_
 refine GW_region ?_
 refine GL_rd (v := .bool _) (wn_none rfl) rfl (rd_assign rfl rfl) ?_
 refine GL_nil ?_
 refine GW_seq ?_
 refine GW_seq ?_
 refine GW_region ?_
 refine GL_rd (v := .slice _ _ _) (wn_none rfl) rfl (rd_move rfl rfl) ?_
 refine GL_call (wn_none rfl) rfl rfl (cl_light _ _ l _ (hs.keep hp.mod)) rfl ?_
 rintro _ w ⟨rfl, hk⟩
 have hp := hp.comp hk
 refine GL_rd (wn_none rfl) rfl (rd_not rfl rfl) ?_
 refine GL_rd (v := .bool _) (wn_none rfl) rfl (rd_move rfl rfl) ?_
 refine GL_split (t := 19) (b := _) rfl ?_ ?_
 ·intro hb; (try simp only [decide_eq_true_eq, decide_eq_false_iff_not, Bool.not_eq_true', Bool.not_eq_false', Bool.not_eq_eq_eq_not, Bool.not_true, Bool.not_false, Int.not_lt, Int.not_le] at hb)
  refine GL_pass (nw_off rfl rfl rfl rfl rfl) rfl ?_
  refine GL_pass (nw_off rfl rfl rfl rfl rfl) rfl ?_
  refine GL_pass (nw_off rfl rfl rfl rfl rfl) rfl ?_
  refine GL_rd (v := .bool _) (wn_none rfl) rfl (rd_pickT rfl rfl rfl) ?_
  refine GL_nil ?_
  refine GW_true rfl ?_
  refine GW_seq ?_
  refine GW_region ?_
  refine GL_call (wn_none rfl) rfl rfl (cl_works _) rfl ?_
  rintro _ w ⟨rfl, hk⟩
  have hp := hp.comp hk
  refine GL_rd (v := .bool _) (wn_none rfl) rfl (rd_assign rfl rfl) ?_
  refine GL_nil ?_
  refine GW_ret ?_
  exact ⟨_, res1 Try.results10 (rv_tmp (v := .bool _) rfl rfl), rfl, hp.mods⟩
 ·intro hb; (try simp only [decide_eq_true_eq, decide_eq_false_iff_not, Bool.not_eq_true', Bool.not_eq_false', Bool.not_eq_eq_eq_not, Bool.not_true, Bool.not_false, Int.not_lt, Int.not_le] at hb)
  have hlit : lightB l = true := hb
  refine GL_rd (v := .string _) (wn_on rfl rfl rfl rfl) rfl (rd_move rfl rfl) ?_
  refine GL_rd (wn_on rfl rfl rfl rfl) rfl (rd_lenS rfl rfl Try.underlying9) ?_
  refine GL_rd (wn_on rfl rfl rfl rfl) rfl (rd_bin rfl rfl rfl bo_gtr) ?_
  refine GL_rd (v := .bool _) (wn_none rfl) rfl (rd_pickF rfl rfl rfl) ?_
  refine GL_nil ?_
  refine GW_cond rfl (fun hb2 => ?_) (fun hb2 => ?_)
  ·(try simp only [decide_eq_true_eq, decide_eq_false_iff_not, Bool.not_eq_true', Bool.not_eq_false', Bool.not_eq_eq_eq_not, Bool.not_true, Bool.not_false, Int.not_lt, Int.not_le] at hb2)
   refine GW_seq ?_
   refine GW_region ?_
   refine GL_call (wn_none rfl) rfl rfl (cl_works _) rfl ?_
   rintro _ w ⟨rfl, hk⟩
   have hp := hp.comp hk
   refine GL_rd (v := .bool _) (wn_none rfl) rfl (rd_assign rfl rfl) ?_
   refine GL_nil ?_
   refine GW_ret ?_
   exact ⟨_, res1 Try.results10 (rv_tmp (v := .bool _) rfl rfl), rfl, hp.mods⟩
  ·(try simp only [decide_eq_true_eq, decide_eq_false_iff_not, Bool.not_eq_true', Bool.not_eq_false', Bool.not_eq_eq_eq_not, Bool.not_true, Bool.not_false, Int.not_lt, Int.not_le] at hb2)
   refine GW_skip ?_
   refine GW_seq ?_
   refine GW_region ?_
   refine GL_rd (v := .slice _ _ _) (wn_none rfl) rfl (rd_move rfl rfl) ?_
   refine GL_call (wn_none rfl) rfl rfl (cl_made _ _ l _ (hs.keep hp.mod) hlit) rfl ?_
   rintro _ w ⟨gq, mq, sv2, mv, r, L, rfl, hok, hmv, hk⟩
   have hp := hp.comp hk
   obtain ⟨Am, cm, rfl⟩ := sl_shape (hmv _ (hp.get 0 rfl))
   have h8 := hok.1
   refine GL_rd (v := .tuple _) (wn_none rfl) rfl (rd_move rfl rfl) ?_
   refine GL_rd (v := .pointer (some ⟨_, _, none⟩)) (wn_none rfl) rfl (rd_extract rfl rfl rfl) ?_
   refine GL_rd (v := _) (wn_none rfl) rfl (rd_extract rfl rfl rfl) ?_
   refine GL_rd (v := .bool _) (wn_none rfl) rfl (rd_extract rfl rfl rfl) ?_
   refine GL_rd (v := .pointer (some ⟨_, _, none⟩)) (wn_none rfl) rfl (rd_assign rfl rfl) ?_
   refine GL_rd (v := _) (wn_none rfl) rfl (rd_assign rfl rfl) ?_
   refine GL_rd (v := .bool _) (wn_none rfl) rfl (rd_assign rfl rfl) ?_
   refine GL_nil ?_
   refine GW_seq ?_
   refine GW_seq ?_
   refine GW_region ?_
   refine GL_rd (v := .bool _) (wn_none rfl) rfl (rd_move rfl rfl) ?_
   refine GL_rd (wn_none rfl) rfl (rd_not rfl rfl) ?_
   refine GL_nil ?_
   refine GW_false rfl ?_
   refine GW_skip ?_
   refine GW_seq ?_
   refine GW_region ?_
   refine GL_rd (v := .pointer (some ⟨_, _, none⟩)) (wn_none rfl) rfl (rd_move rfl rfl) ?_
   refine GL_call (wn_none rfl) rfl rfl (cl_Copy gq mq _ _ L _ (hp.get 1 rfl) (Sl.row (hp.get 2 rfl)) (hp.get 3 rfl) hok hok.sizes) rfl ?_
   rintro _ w ⟨gk, mk, svk, rfl, hk⟩
   have hp := hp.comp hk
   refine GL_rd (v := .pointer (some ⟨_, _, none⟩)) (wn_none rfl) rfl (rd_assign rfl rfl) ?_
   refine GL_nil ?_
   refine GW_seq ?_
   cases hfi : findI L nm with
   | none =>
    refine GW_region ?_
    refine GL_rd (v := .pointer (some ⟨_, _, none⟩)) (wn_none rfl) rfl (rd_move rfl rfl) ?_
    refine GL_rd (v := .string _) (wn_none rfl) rfl (rd_move rfl rfl) ?_
    refine GL_call (wn_none rfl) rfl rfl (cl_Find gq mq _ _ L nm _ (hp.get 4 rfl) (Sl.row (hp.get 5 rfl)) (hp.get 6 rfl)) rfl ?_
    rintro _ w ⟨rfl, hk⟩
    have hp := hp.comp hk
    rw [hfi]
    refine GL_rd (v := .tuple _) (wn_none rfl) rfl (rd_move rfl rfl) ?_
    refine GL_rd (v := .int _ _) (wn_none rfl) rfl (rd_extract rfl rfl rfl) ?_
    refine GL_rd (v := .bool _) (wn_none rfl) rfl (rd_extract rfl rfl rfl) ?_
    refine GL_rd (v := .int _ _) (wn_none rfl) rfl (rd_assign rfl rfl) ?_
    refine GL_rd (v := .bool _) (wn_none rfl) rfl (rd_assign rfl rfl) ?_
    refine GL_nil ?_
    refine GW_seq ?_
    refine GW_region ?_
    refine GL_rd (v := _) (wn_none rfl) rfl (rd_move rfl rfl) ?_
    refine GL_rd (v := .string _) (wn_none rfl) rfl (rd_move rfl rfl) ?_
    refine GL_call (wn_none rfl) rfl rfl (ref_clFind _ _ L nm _ (hmv _ (hp.get 3 rfl)) (by omega)) rfl ?_
    rintro _ w ⟨rfl, hk⟩
    have hp := hp.comp hk
    rw [findV, hfi]
    refine GL_rd (v := .int _ _) (wn_none rfl) rfl (rd_assign rfl rfl) ?_
    refine GL_nil ?_
    refine GW_seq ?_
    rcases (show (0 ≤ i ∧ i < (L.length : Int)) ∨ i < 0 ∨ (0 ≤ i ∧ (L.length : Int) ≤ i) by omega) with hin | hin | hin
    ·skip
     obtain ⟨gM, bM, rfl⟩ := (hmv _ (hp.get 3 rfl)).addr (by rw [flat_length clC_len]; omega)
     refine GW_region ?_
     refine GL_rd (v := .pointer (some ⟨_, _, none⟩)) (wn_none rfl) rfl (rd_move rfl rfl) ?_
     refine GL_rd (v := .int _ _) (wn_none rfl) rfl (rd_move rfl rfl) ?_
     refine GL_call (wn_none rfl) rfl rfl (cl_Get gq mq _ _ L i _ (hp.get 4 rfl) (Sl.row (hp.get 5 rfl)) (hp.get 6 rfl)) rfl ?_
     rintro _ w ⟨rfl, hk⟩
     have hp := hp.comp hk
     rw [if_pos hin, decide_eq_true hin]
     refine GL_rd (v := .tuple _) (wn_none rfl) rfl (rd_move rfl rfl) ?_
     refine GL_rd (v := .agg ⟨_⟩) (wn_none rfl) rfl (rd_extract rfl rfl rfl) ?_
     refine GL_rd (v := .bool _) (wn_none rfl) rfl (rd_extract rfl rfl rfl) ?_
     refine GL_alloc (wn_none rfl) rfl rfl tz97 rfl hp ?_
     intro g w hp
     refine GL_store (i := 0) (wn_none rfl) rfl rfl rfl rfl ts97 rfl rfl (clC_one _) hp rfl (by decide) rfl ?_
     intro w hp
     refine GL_rd (v := .bool _) (wn_none rfl) rfl (rd_assign rfl rfl) ?_
     refine GL_nil ?_
     refine GW_seq ?_
     refine GW_seq ?_
     refine GW_drawnK 60 (.one 0 true (.one 1 true (.one 2 true (.one 3 true (.one 5 true (.one 6 true (.one 4 false (.one 7 true (.one 8 true (.one 9 true (.one 10 true (.one 12 true (.one 11 false (.one 13 false (.one 14 true (.one 15 true (.one 16 true (.one 17 true (.one 18 true (.one 19 true (.one 20 true (.one 21 true (.one 22 true (.one 23 true (.one 24 true (.one 25 true (.one 26 true (.one 27 true (.one 28 true (.one 29 true (.one 30 true (.one 31 true (.one 32 true (.one 33 true (.one 34 true (.one 35 true (.one 36 true (.one 37 true (.one 38 true (.one 39 true (.one 40 true (.one 41 true (.one 42 true (.one 43 true (.one 44 true (.one 45 true (.one 46 true (.one 47 true (.one 48 true (.one 49 true (.one 50 true (.one 51 true (.one 52 true (.one 53 true (.one 54 true (.one 56 true (.one 55 false (.one 57 false (.one 58 true (.one 59 true .nil)))))))))))))))))))))))))))))))))))))))))))))))))))))))))))) mixed (by kernel_rfl) hp (fun _ h => (h.sub (.cons_cons _ (.cons _ (.cons _ (.cons _ (.cons_cons _ (.cons _ (.cons _ (.cons _ .slnil)))))))))) fun w hp => ?_
     have hpS := (hp.sub (.cons_cons _ (.cons _ (.cons _ (.cons _ (.cons_cons _ (.cons _ (.cons _ (.cons _ .slnil)))))))))
     refine GO_rdT (v := .pointer (some ⟨_, _, none⟩)) rfl (wn_none rfl) rfl (fun w => (rd_move rfl rfl)) ?_
     refine GO_rd rfl rfl (wn_none rfl) rfl hpS (fun w hp => (rd_bin rfl rfl rfl (bo_pnil Try.underlying89))) ?_
     refine GO_rdT (v := .bool _) rfl (wn_none rfl) rfl (fun w => (rd_move rfl rfl)) ?_
     refine GO_rdT (v := .pointer (some ⟨_, _, none⟩)) rfl (wn_on rfl rfl rfl rfl) rfl (fun w => (rd_move rfl rfl)) ?_
     refine GO_rdT (v := _) rfl (wn_on rfl rfl rfl rfl) rfl (fun w => (rd_move rfl rfl)) ?_
     refine GO_rd rfl rfl (wn_on rfl rfl rfl rfl) rfl hpS (fun w hp => (rd_len rfl rfl Try.underlying90)) ?_
     refine GO_of_GL rfl ?_
     refine GL_call (wn_on rfl rfl rfl rfl) rfl rfl (cl_Len gq mq _ _ L _ (hp.get 5 rfl) (Sl.row (hp.get 6 rfl)) (hp.get 7 rfl)) rfl ?_
     rintro _ w ⟨rfl, hk⟩
     have hp := hp.comp hk
     have hpS2 := (hp.sub (.cons_cons _ (.cons _ (.cons _ (.cons _ (.cons_cons _ (.cons _ (.cons _ (.cons _ .slnil)))))))))
     refine GL_nil ⟨fun _ => hpS2, ?_⟩
     refine GO_rd rfl rfl (wn_on rfl rfl rfl rfl) rfl hpS2 (fun w hp => (rd_bin rfl rfl rfl (bo_neqS rfl))) ?_
     refine GO_rdT (v := .bool _) rfl (wn_none rfl) rfl (fun w => (rd_pickF rfl rfl rfl)) ?_
     refine GO_rdT (v := .bool _) rfl (wn_none rfl) rfl (fun w => (rd_move rfl rfl)) ?_
     refine GO_rdT (v := .pointer (some ⟨_, _, none⟩)) rfl (wn_on rfl rfl rfl rfl) rfl (fun w => (rd_move rfl rfl)) ?_
     refine GO_rdT (v := _) rfl (wn_on rfl rfl rfl rfl) rfl (fun w => (rd_move rfl rfl)) ?_
     refine GO_of_GL rfl ?_
     refine GL_call (wn_on rfl rfl rfl rfl) rfl rfl (cl_All gq mq _ _ L _ (hp.get 5 rfl) (Sl.row (hp.get 6 rfl)) (hp.get 7 rfl) (by omega)) rfl ?_
     intro va w hk
     have hp := hp.comp hk
     have hpS3 := (hp.sub (.cons _ (.cons_cons _ (.cons _ (.cons _ (.cons _ (.cons_cons _ (.cons _ (.cons _ (.cons _ .slnil))))))))))
     refine GL_nil ⟨fun _ => hpS3, ?_⟩
     refine GO_of_GL rfl ?_
     refine GL_call (wn_on rfl rfl rfl rfl) rfl rfl (ref_clSame _ _ _ _ L L _ (Sl.row (hp.get 0 rfl)) (hmv _ (hp.get 5 rfl)) rfl) rfl ?_
     rintro _ w ⟨rfl, hk⟩
     have hp := hp.comp hk
     have hpS4 := (hp.sub (.cons _ (.cons_cons _ (.cons _ (.cons _ (.cons _ (.cons_cons _ (.cons _ (.cons _ (.cons _ .slnil))))))))))
     refine GL_nil ⟨fun _ => hpS4, ?_⟩
     refine GO_rd rfl rfl (wn_on rfl rfl rfl rfl) rfl hpS4 (fun w hp => (rd_not rfl rfl)) ?_
     refine GO_rdT (v := .bool _) rfl (wn_none rfl) rfl (fun w => (rd_pickF rfl rfl rfl)) ?_
     refine GO_rdT (v := .bool _) rfl (wn_none rfl) rfl (fun w => (rd_move rfl rfl)) ?_
     refine GO_rdT (v := .bool _) rfl (wn_on rfl rfl rfl rfl) rfl (fun w => (rd_move rfl rfl)) ?_
     refine GO_rdT (v := .int _ _) rfl (wn_on rfl rfl rfl rfl) rfl (fun w => (rd_move rfl rfl)) ?_
     refine GO_rd rfl rfl (wn_on rfl rfl rfl rfl) rfl hpS4 (fun w hp => (rd_bin rfl rfl rfl (bo_boolE (q := false) bo_geq (by decide)))) ?_
     refine GO_rd rfl rfl (wn_on rfl rfl rfl rfl) rfl hpS4 (fun w hp => (rd_bin rfl rfl rfl (bo_boolE (bo_bneq Try.underlying4) rfl))) ?_
     refine GO_rdT (v := .bool _) rfl (wn_none rfl) rfl (fun w => (rd_pickF rfl rfl rfl)) ?_
     refine GO_rdT (v := .bool _) rfl (wn_none rfl) rfl (fun w => (rd_move rfl rfl)) ?_
     refine GO_rdT (v := .bool _) rfl (wn_on rfl rfl rfl rfl) rfl (fun w => (rd_move rfl rfl)) ?_
     refine GO_rdT (v := .bool _) rfl (wn_on rfl rfl rfl rfl) rfl (fun w => (rd_move rfl rfl)) ?_
     refine GO_pass rfl (nw_off rfl rfl rfl rfl rfl) rfl ?_
     refine GO_pass rfl (nw_off rfl rfl rfl rfl rfl) rfl ?_
     refine GO_pass rfl (nw_off rfl rfl rfl rfl rfl) rfl ?_
     refine GO_rdT (v := .bool _) rfl (wn_on rfl rfl rfl rfl) rfl (fun w => (rd_pickF rfl rfl rfl)) ?_
     refine GO_rdT (v := .bool _) rfl (wn_none rfl) rfl (fun w => (rd_pickF rfl rfl rfl)) ?_
     refine GO_rdT (v := .bool _) rfl (wn_none rfl) rfl (fun w => (rd_move rfl rfl)) ?_
     refine GO_rdT (v := .bool _) rfl (wn_on rfl rfl rfl rfl) rfl (fun w => (rd_move rfl rfl)) ?_
     refine GO_rdT (v := .int _ _) rfl (wn_on rfl rfl rfl rfl) rfl (fun w => (rd_move rfl rfl)) ?_
     refine GO_rd rfl rfl (wn_on rfl rfl rfl rfl) rfl hpS4 (fun w hp => (rd_bin rfl rfl rfl (bo_boolE (q := true) bo_geq (decide_eq_true (by omega))))) ?_
     refine GO_rdT (v := .bool _) rfl (wn_on rfl rfl rfl rfl) rfl (fun w => (rd_move rfl rfl)) ?_
     refine GO_rdT (v := .int _ _) rfl (wn_on rfl rfl rfl rfl) rfl (fun w => (rd_move rfl rfl)) ?_
     refine GO_rdT (v := _) rfl (wn_on rfl rfl rfl rfl) rfl (fun w => (rd_move rfl rfl)) ?_
     refine GO_rd rfl rfl (wn_on rfl rfl rfl rfl) rfl hpS4 (fun w hp => (rd_len rfl rfl Try.underlying90)) ?_
     refine GO_rd rfl rfl (wn_on rfl rfl rfl rfl) rfl hpS4 (fun w hp => (rd_bin rfl rfl rfl (bo_boolE (q := true) bo_lss (decide_eq_true (by omega))))) ?_
     refine GO_rdT (v := .bool _) rfl (wn_on rfl rfl rfl rfl) rfl (fun w => (rd_pickT rfl rfl rfl)) ?_
     refine GO_rd rfl rfl (wn_on rfl rfl rfl rfl) rfl hpS4 (fun w hp => (rd_bin rfl rfl rfl (bo_boolE (bo_bneq Try.underlying4) rfl))) ?_
     refine GO_rdT (v := .bool _) rfl (wn_none rfl) rfl (fun w => (rd_pickF rfl rfl rfl)) ?_
     refine GO_rdT (v := .bool _) rfl (wn_none rfl) rfl (fun w => (rd_move rfl rfl)) ?_
     refine GO_rdT (v := .bool _) rfl (wn_on rfl rfl rfl rfl) rfl (fun w => (rd_move rfl rfl)) ?_
     refine GO_rdT (v := .bool _) rfl (wn_on rfl rfl rfl rfl) rfl (fun w => (rd_move rfl rfl)) ?_
     refine GO_rd rfl rfl (wn_on rfl rfl rfl rfl) rfl hpS4 (fun w hp => (rd_loadC rfl rfl Try.underlying97 rfl ts97 (hp.get 0 rfl) (by first | rfl | simp [bys_length, *]))) ?_
     refine GO_rdT (v := _) rfl (wn_on rfl rfl rfl rfl) rfl (fun w => (rd_move rfl rfl)) ?_
     refine GO_rdT (v := .int _ _) rfl (wn_on rfl rfl rfl rfl) rfl (fun w => (rd_move rfl rfl)) ?_
     refine GO_rdT rfl (wn_on rfl rfl rfl rfl) rfl (fun w => (rd_indexS (j := i.toNat) rfl rfl rfl Try.underlying90 ts97 (by omega) (by omega) _ rfl)) ?_
     refine GO_rd rfl rfl (wn_on rfl rfl rfl rfl) rfl hpS4 (fun w hp => (rd_loadN (L := clC (clAt L i.toNat)) rfl rfl Try.underlying97 rfl ts97 rfl (fun j u hj => (hmv _ (hp.get 1 rfl)).elem clC_len i.toNat j (clC_lt hj) (clAt_some (by omega)) hj))) ?_
     refine GO_rd rfl rfl (wn_on rfl rfl rfl rfl) rfl hpS4 (fun w hp => (rd_bin rfl rfl rfl (bo_boolE (q := false) (bo_cls clsAt).2 (by rw [clsEq_iff.2 rfl]; rfl)))) ?_
     refine GO_rdT (v := .bool _) rfl (wn_on rfl rfl rfl rfl) rfl (fun w => (rd_pickT rfl rfl rfl)) ?_
     refine GO_rdT (v := .bool _) rfl (wn_none rfl) rfl (fun w => (rd_pickF rfl rfl rfl)) ?_
     refine GO_rdT (v := .bool _) rfl (wn_none rfl) rfl (fun w => (rd_move rfl rfl)) ?_
     refine GO_rdT (v := .string _) rfl (wn_on rfl rfl rfl rfl) rfl (fun w => (rd_move rfl rfl)) ?_
     refine GO_rdT (v := .string _) rfl (wn_on rfl rfl rfl rfl) rfl (fun w => (rd_move rfl rfl)) ?_
     refine GO_of_GL rfl ?_
     refine GL_call (wn_on rfl rfl rfl rfl) rfl rfl (cl_Name nm _ hnm) rfl ?_
     rintro _ w ⟨rfl, hk⟩
     have hp := hp.comp hk
     have hpS5 := (hp.sub (.cons _ (.cons_cons _ (.cons _ (.cons _ (.cons _ (.cons_cons _ (.cons _ (.cons _ (.cons _ .slnil))))))))))
     refine GL_nil ⟨fun _ => hpS5, ?_⟩
     refine GO_of_GL rfl ?_
     refine GL_call (wn_on rfl rfl rfl rfl) rfl rfl (ref_clName nm _ hnm) rfl ?_
     rintro _ w ⟨rfl, hk⟩
     have hp := hp.comp hk
     have hpS6 := (hp.sub (.cons _ (.cons_cons _ (.cons _ (.cons _ (.cons _ (.cons_cons _ (.cons _ (.cons _ (.cons _ .slnil))))))))))
     refine GL_nil ⟨fun _ => hpS6, ?_⟩
     refine GO_rd rfl rfl (wn_on rfl rfl rfl rfl) rfl hpS6 (fun w hp => (rd_bin rfl rfl rfl (bo_neqS rfl))) ?_
     refine GO_rdT (v := .bool _) rfl (wn_none rfl) rfl (fun w => (rd_pickF rfl rfl rfl)) ?_
     refine GO_nil ?_
     refine GW_false rfl ?_
     refine GW_skip ?_
     refine GW_seq ?_
     refine GW_region ?_
     refine GL_rd (v := .pointer (some ⟨_, _, none⟩)) (wn_none rfl) rfl (rd_move rfl rfl) ?_
     refine GL_rd (wn_none rfl) rfl (rd_buildS (L := clC ⟨⟨#[111, 110, 101, 45, 109, 111, 114, 101]⟩, 0, false, false⟩) rfl tz97 pl97 (by kernel_rfl)) ?_
     have hp := (((hp.front 8 rfl).front 8 rfl).front 8 rfl)
     refine GL_call (wn_none rfl) rfl rfl (cl_Add gq mq _ _ L _ ⟨⟨#[111, 110, 101, 45, 109, 111, 114, 101]⟩, 0, false, false⟩ _ (by omega) (by decide) (hp.ownsT 3)) rfl ?_
     rintro _ w ⟨rfl, sv5, hk⟩
     have hp := hp.turnsT 3 hk
     refine GL_nil ?_
     refine GW_seq ?_
     refine GW_region ?_
     refine GL_rd (v := .pointer (some ⟨_, _, none⟩)) (wn_none rfl) rfl (rd_move rfl rfl) ?_
     refine GL_rd (v := .string _) (wn_none rfl) rfl (rd_move rfl rfl) ?_
     have hp := (((hp.front 2 rfl).front 2 rfl).front 2 rfl)
     refine GL_call (wn_none rfl) rfl rfl (cl_Longer gq mq _ _ (claL L ⟨⟨#[111, 110, 101, 45, 109, 111, 114, 101]⟩, 0, false, false⟩) _ nm 1099511627776 _ (by have := (hok.add ⟨⟨#[111, 110, 101, 45, 109, 111, 114, 101]⟩, 0, false, false⟩).1; omega) (hp.ownsT 3)) rfl ?_
     rintro _ w ⟨rfl, sv6, hk⟩
     have hp := hp.turnsT 3 hk
     refine GL_nil ?_
     refine GW_seq ?_
     refine GW_region ?_
     refine GL_rd (v := .pointer (some ⟨_, _, none⟩)) (wn_none rfl) rfl (rd_move rfl rfl) ?_
     refine GL_call (wn_none rfl) rfl rfl (cl_All gk mk _ _ L _ (hp.get 5 rfl) (Sl.row (hp.get 6 rfl)) (hp.get 7 rfl) (by omega)) rfl ?_
     intro vb w hk
     have hp := hp.comp hk
     refine GL_rd (v := _) (wn_none rfl) rfl (rd_move rfl rfl) ?_
     refine GL_call (wn_none rfl) rfl rfl (ref_clSame _ _ _ _ L L _ (Sl.row (hp.get 0 rfl)) (hmv _ (hp.get 9 rfl)) rfl) rfl ?_
     rintro _ w ⟨rfl, hk⟩
     have hp := hp.comp hk
     refine GL_rd (v := .bool _) (wn_none rfl) rfl (rd_move rfl rfl) ?_
     refine GL_call (wn_on rfl rfl rfl rfl) rfl rfl (cl_works _) rfl ?_
     rintro _ w ⟨rfl, hk⟩
     have hp := hp.comp hk
     refine GL_rd (v := .bool _) (wn_none rfl) rfl (rd_pickT rfl rfl rfl) ?_
     refine GL_rd (v := .bool _) (wn_none rfl) rfl (rd_assign rfl rfl) ?_
     refine GL_nil ?_
     refine GW_ret ?_
     exact ⟨_, res1 Try.results10 (rv_tmp (v := .bool _) rfl rfl), rfl, hp.mods⟩
    ·skip
     refine GW_region ?_
     refine GL_rd (v := .pointer (some ⟨_, _, none⟩)) (wn_none rfl) rfl (rd_move rfl rfl) ?_
     refine GL_rd (v := .int _ _) (wn_none rfl) rfl (rd_move rfl rfl) ?_
     refine GL_call (wn_none rfl) rfl rfl (cl_Get gq mq _ _ L i _ (hp.get 4 rfl) (Sl.row (hp.get 5 rfl)) (hp.get 6 rfl)) rfl ?_
     rintro _ w ⟨rfl, hk⟩
     have hp := hp.comp hk
     rw [if_neg (show ¬ (0 ≤ i ∧ i < (L.length : Int)) by omega), decide_eq_false (show ¬ (0 ≤ i ∧ i < (L.length : Int)) by omega)]
     refine GL_rd (v := .tuple _) (wn_none rfl) rfl (rd_move rfl rfl) ?_
     refine GL_rd (v := .agg ⟨_⟩) (wn_none rfl) rfl (rd_extract rfl rfl rfl) ?_
     refine GL_rd (v := .bool _) (wn_none rfl) rfl (rd_extract rfl rfl rfl) ?_
     refine GL_alloc (wn_none rfl) rfl rfl tz97 rfl hp ?_
     intro g2 w hp
     refine GL_store (i := 0) (wn_none rfl) rfl rfl rfl rfl ts97 rfl rfl (clC_one _) hp rfl (by decide) rfl ?_
     intro w hp
     refine GL_rd (v := .bool _) (wn_none rfl) rfl (rd_assign rfl rfl) ?_
     refine GL_nil ?_
     refine GW_seq ?_
     refine GW_seq ?_
     refine GW_drawnK 60 (.one 0 true (.one 1 true (.one 2 true (.one 3 true (.one 5 true (.one 6 true (.one 4 false (.one 7 true (.one 8 true (.one 9 true (.one 10 true (.one 12 true (.one 11 false (.one 13 false (.one 14 true (.one 15 true (.one 16 true (.one 17 true (.one 18 true (.one 19 true (.one 20 true (.one 21 true (.one 22 true (.one 23 true (.one 24 true (.one 25 true (.one 26 true (.one 27 true (.one 28 true (.one 29 true (.one 30 true (.one 31 true (.one 32 true (.one 33 true (.one 34 true (.one 35 true (.one 36 true (.one 37 true (.one 38 true (.one 39 true (.one 40 true (.one 41 true (.one 42 true (.one 43 true (.one 44 true (.one 45 true (.one 46 true (.one 47 true (.one 48 true (.one 49 true (.one 50 true (.one 51 true (.one 52 true (.one 53 true (.one 54 true (.one 56 true (.one 55 false (.one 57 false (.one 58 true (.one 59 true .nil)))))))))))))))))))))))))))))))))))))))))))))))))))))))))))) mixed (by kernel_rfl) hp (fun _ h => (h.sub (.cons_cons _ (.cons _ (.cons _ (.cons _ (.cons_cons _ (.cons _ (.cons _ (.cons _ .slnil)))))))))) fun w hp => ?_
     have hpS7 := (hp.sub (.cons_cons _ (.cons _ (.cons _ (.cons _ (.cons_cons _ (.cons _ (.cons _ (.cons _ .slnil)))))))))
     refine GO_rdT (v := .pointer (some ⟨_, _, none⟩)) rfl (wn_none rfl) rfl (fun w => (rd_move rfl rfl)) ?_
     refine GO_rd rfl rfl (wn_none rfl) rfl hpS7 (fun w hp => (rd_bin rfl rfl rfl (bo_pnil Try.underlying89))) ?_
     refine GO_rdT (v := .bool _) rfl (wn_none rfl) rfl (fun w => (rd_move rfl rfl)) ?_
     refine GO_rdT (v := .pointer (some ⟨_, _, none⟩)) rfl (wn_on rfl rfl rfl rfl) rfl (fun w => (rd_move rfl rfl)) ?_
     refine GO_rdT (v := _) rfl (wn_on rfl rfl rfl rfl) rfl (fun w => (rd_move rfl rfl)) ?_
     refine GO_rd rfl rfl (wn_on rfl rfl rfl rfl) rfl hpS7 (fun w hp => (rd_len rfl rfl Try.underlying90)) ?_
     refine GO_of_GL rfl ?_
     refine GL_call (wn_on rfl rfl rfl rfl) rfl rfl (cl_Len gq mq _ _ L _ (hp.get 5 rfl) (Sl.row (hp.get 6 rfl)) (hp.get 7 rfl)) rfl ?_
     rintro _ w ⟨rfl, hk⟩
     have hp := hp.comp hk
     have hpS8 := (hp.sub (.cons_cons _ (.cons _ (.cons _ (.cons _ (.cons_cons _ (.cons _ (.cons _ (.cons _ .slnil)))))))))
     refine GL_nil ⟨fun _ => hpS8, ?_⟩
     refine GO_rd rfl rfl (wn_on rfl rfl rfl rfl) rfl hpS8 (fun w hp => (rd_bin rfl rfl rfl (bo_neqS rfl))) ?_
     refine GO_rdT (v := .bool _) rfl (wn_none rfl) rfl (fun w => (rd_pickF rfl rfl rfl)) ?_
     refine GO_rdT (v := .bool _) rfl (wn_none rfl) rfl (fun w => (rd_move rfl rfl)) ?_
     refine GO_rdT (v := .pointer (some ⟨_, _, none⟩)) rfl (wn_on rfl rfl rfl rfl) rfl (fun w => (rd_move rfl rfl)) ?_
     refine GO_rdT (v := _) rfl (wn_on rfl rfl rfl rfl) rfl (fun w => (rd_move rfl rfl)) ?_
     refine GO_of_GL rfl ?_
     refine GL_call (wn_on rfl rfl rfl rfl) rfl rfl (cl_All gq mq _ _ L _ (hp.get 5 rfl) (Sl.row (hp.get 6 rfl)) (hp.get 7 rfl) (by omega)) rfl ?_
     intro va w hk
     have hp := hp.comp hk
     have hpS9 := (hp.sub (.cons _ (.cons_cons _ (.cons _ (.cons _ (.cons _ (.cons_cons _ (.cons _ (.cons _ (.cons _ .slnil))))))))))
     refine GL_nil ⟨fun _ => hpS9, ?_⟩
     refine GO_of_GL rfl ?_
     refine GL_call (wn_on rfl rfl rfl rfl) rfl rfl (ref_clSame _ _ _ _ L L _ (Sl.row (hp.get 0 rfl)) (hmv _ (hp.get 5 rfl)) rfl) rfl ?_
     rintro _ w ⟨rfl, hk⟩
     have hp := hp.comp hk
     have hpS10 := (hp.sub (.cons _ (.cons_cons _ (.cons _ (.cons _ (.cons _ (.cons_cons _ (.cons _ (.cons _ (.cons _ .slnil))))))))))
     refine GL_nil ⟨fun _ => hpS10, ?_⟩
     refine GO_rd rfl rfl (wn_on rfl rfl rfl rfl) rfl hpS10 (fun w hp => (rd_not rfl rfl)) ?_
     refine GO_rdT (v := .bool _) rfl (wn_none rfl) rfl (fun w => (rd_pickF rfl rfl rfl)) ?_
     refine GO_rdT (v := .bool _) rfl (wn_none rfl) rfl (fun w => (rd_move rfl rfl)) ?_
     refine GO_rdT (v := .bool _) rfl (wn_on rfl rfl rfl rfl) rfl (fun w => (rd_move rfl rfl)) ?_
     refine GO_rdT (v := .int _ _) rfl (wn_on rfl rfl rfl rfl) rfl (fun w => (rd_move rfl rfl)) ?_
     refine GO_rd rfl rfl (wn_on rfl rfl rfl rfl) rfl hpS10 (fun w hp => (rd_bin rfl rfl rfl (bo_boolE (q := false) bo_geq (by decide)))) ?_
     refine GO_rd rfl rfl (wn_on rfl rfl rfl rfl) rfl hpS10 (fun w hp => (rd_bin rfl rfl rfl (bo_boolE (bo_bneq Try.underlying4) rfl))) ?_
     refine GO_rdT (v := .bool _) rfl (wn_none rfl) rfl (fun w => (rd_pickF rfl rfl rfl)) ?_
     refine GO_rdT (v := .bool _) rfl (wn_none rfl) rfl (fun w => (rd_move rfl rfl)) ?_
     refine GO_rdT (v := .bool _) rfl (wn_on rfl rfl rfl rfl) rfl (fun w => (rd_move rfl rfl)) ?_
     refine GO_rdT (v := .bool _) rfl (wn_on rfl rfl rfl rfl) rfl (fun w => (rd_move rfl rfl)) ?_
     refine GO_pass rfl (nw_off rfl rfl rfl rfl rfl) rfl ?_
     refine GO_pass rfl (nw_off rfl rfl rfl rfl rfl) rfl ?_
     refine GO_pass rfl (nw_off rfl rfl rfl rfl rfl) rfl ?_
     refine GO_rdT (v := .bool _) rfl (wn_on rfl rfl rfl rfl) rfl (fun w => (rd_pickF rfl rfl rfl)) ?_
     refine GO_rdT (v := .bool _) rfl (wn_none rfl) rfl (fun w => (rd_pickF rfl rfl rfl)) ?_
     refine GO_rdT (v := .bool _) rfl (wn_none rfl) rfl (fun w => (rd_move rfl rfl)) ?_
     refine GO_rdT (v := .bool _) rfl (wn_on rfl rfl rfl rfl) rfl (fun w => (rd_move rfl rfl)) ?_
     refine GO_rdT (v := .int _ _) rfl (wn_on rfl rfl rfl rfl) rfl (fun w => (rd_move rfl rfl)) ?_
     refine GO_rd rfl rfl (wn_on rfl rfl rfl rfl) rfl hpS10 (fun w hp => (rd_bin rfl rfl rfl (bo_boolE (q := false) bo_geq (decide_eq_false (by omega))))) ?_
     refine GO_rdT (v := .bool _) rfl (wn_on rfl rfl rfl rfl) rfl (fun w => (rd_move rfl rfl)) ?_
     refine GO_pass rfl (nw_off rfl rfl rfl rfl rfl) rfl ?_
     refine GO_pass rfl (nw_off rfl rfl rfl rfl rfl) rfl ?_
     refine GO_pass rfl (nw_off rfl rfl rfl rfl rfl) rfl ?_
     refine GO_pass rfl (nw_off rfl rfl rfl rfl rfl) rfl ?_
     refine GO_rdT (v := .bool _) rfl (wn_on rfl rfl rfl rfl) rfl (fun w => (rd_pickF rfl rfl rfl)) ?_
     refine GO_rd rfl rfl (wn_on rfl rfl rfl rfl) rfl hpS10 (fun w hp => (rd_bin rfl rfl rfl (bo_boolE (bo_bneq Try.underlying4) rfl))) ?_
     refine GO_rdT (v := .bool _) rfl (wn_none rfl) rfl (fun w => (rd_pickF rfl rfl rfl)) ?_
     refine GO_rdT (v := .bool _) rfl (wn_none rfl) rfl (fun w => (rd_move rfl rfl)) ?_
     refine GO_rdT (v := .bool _) rfl (wn_on rfl rfl rfl rfl) rfl (fun w => (rd_move rfl rfl)) ?_
     refine GO_rdT (v := .bool _) rfl (wn_on rfl rfl rfl rfl) rfl (fun w => (rd_move rfl rfl)) ?_
     refine GO_pass rfl (nw_off rfl rfl rfl rfl rfl) rfl ?_
     refine GO_pass rfl (nw_off rfl rfl rfl rfl rfl) rfl ?_
     refine GO_pass rfl (nw_off rfl rfl rfl rfl rfl) rfl ?_
     refine GO_pass rfl (nw_off rfl rfl rfl rfl rfl) rfl ?_
     refine GO_pass rfl (nw_off rfl rfl rfl rfl rfl) rfl ?_
     refine GO_pass rfl (nw_off rfl rfl rfl rfl rfl) rfl ?_
     refine GO_rdT (v := .bool _) rfl (wn_on rfl rfl rfl rfl) rfl (fun w => (rd_pickF rfl rfl rfl)) ?_
     refine GO_rdT (v := .bool _) rfl (wn_none rfl) rfl (fun w => (rd_pickF rfl rfl rfl)) ?_
     refine GO_rdT (v := .bool _) rfl (wn_none rfl) rfl (fun w => (rd_move rfl rfl)) ?_
     refine GO_rdT (v := .string _) rfl (wn_on rfl rfl rfl rfl) rfl (fun w => (rd_move rfl rfl)) ?_
     refine GO_rdT (v := .string _) rfl (wn_on rfl rfl rfl rfl) rfl (fun w => (rd_move rfl rfl)) ?_
     refine GO_of_GL rfl ?_
     refine GL_call (wn_on rfl rfl rfl rfl) rfl rfl (cl_Name nm _ hnm) rfl ?_
     rintro _ w ⟨rfl, hk⟩
     have hp := hp.comp hk
     have hpS11 := (hp.sub (.cons _ (.cons_cons _ (.cons _ (.cons _ (.cons _ (.cons_cons _ (.cons _ (.cons _ (.cons _ .slnil))))))))))
     refine GL_nil ⟨fun _ => hpS11, ?_⟩
     refine GO_of_GL rfl ?_
     refine GL_call (wn_on rfl rfl rfl rfl) rfl rfl (ref_clName nm _ hnm) rfl ?_
     rintro _ w ⟨rfl, hk⟩
     have hp := hp.comp hk
     have hpS12 := (hp.sub (.cons _ (.cons_cons _ (.cons _ (.cons _ (.cons _ (.cons_cons _ (.cons _ (.cons _ (.cons _ .slnil))))))))))
     refine GL_nil ⟨fun _ => hpS12, ?_⟩
     refine GO_rd rfl rfl (wn_on rfl rfl rfl rfl) rfl hpS12 (fun w hp => (rd_bin rfl rfl rfl (bo_neqS rfl))) ?_
     refine GO_rdT (v := .bool _) rfl (wn_none rfl) rfl (fun w => (rd_pickF rfl rfl rfl)) ?_
     refine GO_nil ?_
     refine GW_false rfl ?_
     refine GW_skip ?_
     refine GW_seq ?_
     refine GW_region ?_
     refine GL_rd (v := .pointer (some ⟨_, _, none⟩)) (wn_none rfl) rfl (rd_move rfl rfl) ?_
     refine GL_rd (wn_none rfl) rfl (rd_buildS (L := clC ⟨⟨#[111, 110, 101, 45, 109, 111, 114, 101]⟩, 0, false, false⟩) rfl tz97 pl97 (by kernel_rfl)) ?_
     have hp := (((hp.front 8 rfl).front 8 rfl).front 8 rfl)
     refine GL_call (wn_none rfl) rfl rfl (cl_Add gq mq _ _ L _ ⟨⟨#[111, 110, 101, 45, 109, 111, 114, 101]⟩, 0, false, false⟩ _ (by omega) (by decide) (hp.ownsT 3)) rfl ?_
     rintro _ w ⟨rfl, sv5, hk⟩
     have hp := hp.turnsT 3 hk
     refine GL_nil ?_
     refine GW_seq ?_
     refine GW_region ?_
     refine GL_rd (v := .pointer (some ⟨_, _, none⟩)) (wn_none rfl) rfl (rd_move rfl rfl) ?_
     refine GL_rd (v := .string _) (wn_none rfl) rfl (rd_move rfl rfl) ?_
     have hp := (((hp.front 2 rfl).front 2 rfl).front 2 rfl)
     refine GL_call (wn_none rfl) rfl rfl (cl_Longer gq mq _ _ (claL L ⟨⟨#[111, 110, 101, 45, 109, 111, 114, 101]⟩, 0, false, false⟩) _ nm 1099511627776 _ (by have := (hok.add ⟨⟨#[111, 110, 101, 45, 109, 111, 114, 101]⟩, 0, false, false⟩).1; omega) (hp.ownsT 3)) rfl ?_
     rintro _ w ⟨rfl, sv6, hk⟩
     have hp := hp.turnsT 3 hk
     refine GL_nil ?_
     refine GW_seq ?_
     refine GW_region ?_
     refine GL_rd (v := .pointer (some ⟨_, _, none⟩)) (wn_none rfl) rfl (rd_move rfl rfl) ?_
     refine GL_call (wn_none rfl) rfl rfl (cl_All gk mk _ _ L _ (hp.get 5 rfl) (Sl.row (hp.get 6 rfl)) (hp.get 7 rfl) (by omega)) rfl ?_
     intro vb w hk
     have hp := hp.comp hk
     refine GL_rd (v := _) (wn_none rfl) rfl (rd_move rfl rfl) ?_
     refine GL_call (wn_none rfl) rfl rfl (ref_clSame _ _ _ _ L L _ (Sl.row (hp.get 0 rfl)) (hmv _ (hp.get 9 rfl)) rfl) rfl ?_
     rintro _ w ⟨rfl, hk⟩
     have hp := hp.comp hk
     refine GL_rd (v := .bool _) (wn_none rfl) rfl (rd_move rfl rfl) ?_
     refine GL_call (wn_on rfl rfl rfl rfl) rfl rfl (cl_works _) rfl ?_
     rintro _ w ⟨rfl, hk⟩
     have hp := hp.comp hk
     refine GL_rd (v := .bool _) (wn_none rfl) rfl (rd_pickT rfl rfl rfl) ?_
     refine GL_rd (v := .bool _) (wn_none rfl) rfl (rd_assign rfl rfl) ?_
     refine GL_nil ?_
     refine GW_ret ?_
     exact ⟨_, res1 Try.results10 (rv_tmp (v := .bool _) rfl rfl), rfl, hp.mods⟩
    ·skip
     refine GW_region ?_
     refine GL_rd (v := .pointer (some ⟨_, _, none⟩)) (wn_none rfl) rfl (rd_move rfl rfl) ?_
     refine GL_rd (v := .int _ _) (wn_none rfl) rfl (rd_move rfl rfl) ?_
     refine GL_call (wn_none rfl) rfl rfl (cl_Get gq mq _ _ L i _ (hp.get 4 rfl) (Sl.row (hp.get 5 rfl)) (hp.get 6 rfl)) rfl ?_
     rintro _ w ⟨rfl, hk⟩
     have hp := hp.comp hk
     rw [if_neg (show ¬ (0 ≤ i ∧ i < (L.length : Int)) by omega), decide_eq_false (show ¬ (0 ≤ i ∧ i < (L.length : Int)) by omega)]
     refine GL_rd (v := .tuple _) (wn_none rfl) rfl (rd_move rfl rfl) ?_
     refine GL_rd (v := .agg ⟨_⟩) (wn_none rfl) rfl (rd_extract rfl rfl rfl) ?_
     refine GL_rd (v := .bool _) (wn_none rfl) rfl (rd_extract rfl rfl rfl) ?_
     refine GL_alloc (wn_none rfl) rfl rfl tz97 rfl hp ?_
     intro g3 w hp
     refine GL_store (i := 0) (wn_none rfl) rfl rfl rfl rfl ts97 rfl rfl (clC_one _) hp rfl (by decide) rfl ?_
     intro w hp
     refine GL_rd (v := .bool _) (wn_none rfl) rfl (rd_assign rfl rfl) ?_
     refine GL_nil ?_
     refine GW_seq ?_
     refine GW_seq ?_
     refine GW_drawnK 60 (.one 0 true (.one 1 true (.one 2 true (.one 3 true (.one 5 true (.one 6 true (.one 4 false (.one 7 true (.one 8 true (.one 9 true (.one 10 true (.one 12 true (.one 11 false (.one 13 false (.one 14 true (.one 15 true (.one 16 true (.one 17 true (.one 18 true (.one 19 true (.one 20 true (.one 21 true (.one 22 true (.one 23 true (.one 24 true (.one 25 true (.one 26 true (.one 27 true (.one 28 true (.one 29 true (.one 30 true (.one 31 true (.one 32 true (.one 33 true (.one 34 true (.one 35 true (.one 36 true (.one 37 true (.one 38 true (.one 39 true (.one 40 true (.one 41 true (.one 42 true (.one 43 true (.one 44 true (.one 45 true (.one 46 true (.one 47 true (.one 48 true (.one 49 true (.one 50 true (.one 51 true (.one 52 true (.one 53 true (.one 54 true (.one 56 true (.one 55 false (.one 57 false (.one 58 true (.one 59 true .nil)))))))))))))))))))))))))))))))))))))))))))))))))))))))))))) mixed (by kernel_rfl) hp (fun _ h => (h.sub (.cons_cons _ (.cons _ (.cons _ (.cons _ (.cons_cons _ (.cons _ (.cons _ (.cons _ .slnil)))))))))) fun w hp => ?_
     have hpS13 := (hp.sub (.cons_cons _ (.cons _ (.cons _ (.cons _ (.cons_cons _ (.cons _ (.cons _ (.cons _ .slnil)))))))))
     refine GO_rdT (v := .pointer (some ⟨_, _, none⟩)) rfl (wn_none rfl) rfl (fun w => (rd_move rfl rfl)) ?_
     refine GO_rd rfl rfl (wn_none rfl) rfl hpS13 (fun w hp => (rd_bin rfl rfl rfl (bo_pnil Try.underlying89))) ?_
     refine GO_rdT (v := .bool _) rfl (wn_none rfl) rfl (fun w => (rd_move rfl rfl)) ?_
     refine GO_rdT (v := .pointer (some ⟨_, _, none⟩)) rfl (wn_on rfl rfl rfl rfl) rfl (fun w => (rd_move rfl rfl)) ?_
     refine GO_rdT (v := _) rfl (wn_on rfl rfl rfl rfl) rfl (fun w => (rd_move rfl rfl)) ?_
     refine GO_rd rfl rfl (wn_on rfl rfl rfl rfl) rfl hpS13 (fun w hp => (rd_len rfl rfl Try.underlying90)) ?_
     refine GO_of_GL rfl ?_
     refine GL_call (wn_on rfl rfl rfl rfl) rfl rfl (cl_Len gq mq _ _ L _ (hp.get 5 rfl) (Sl.row (hp.get 6 rfl)) (hp.get 7 rfl)) rfl ?_
     rintro _ w ⟨rfl, hk⟩
     have hp := hp.comp hk
     have hpS14 := (hp.sub (.cons_cons _ (.cons _ (.cons _ (.cons _ (.cons_cons _ (.cons _ (.cons _ (.cons _ .slnil)))))))))
     refine GL_nil ⟨fun _ => hpS14, ?_⟩
     refine GO_rd rfl rfl (wn_on rfl rfl rfl rfl) rfl hpS14 (fun w hp => (rd_bin rfl rfl rfl (bo_neqS rfl))) ?_
     refine GO_rdT (v := .bool _) rfl (wn_none rfl) rfl (fun w => (rd_pickF rfl rfl rfl)) ?_
     refine GO_rdT (v := .bool _) rfl (wn_none rfl) rfl (fun w => (rd_move rfl rfl)) ?_
     refine GO_rdT (v := .pointer (some ⟨_, _, none⟩)) rfl (wn_on rfl rfl rfl rfl) rfl (fun w => (rd_move rfl rfl)) ?_
     refine GO_rdT (v := _) rfl (wn_on rfl rfl rfl rfl) rfl (fun w => (rd_move rfl rfl)) ?_
     refine GO_of_GL rfl ?_
     refine GL_call (wn_on rfl rfl rfl rfl) rfl rfl (cl_All gq mq _ _ L _ (hp.get 5 rfl) (Sl.row (hp.get 6 rfl)) (hp.get 7 rfl) (by omega)) rfl ?_
     intro va w hk
     have hp := hp.comp hk
     have hpS15 := (hp.sub (.cons _ (.cons_cons _ (.cons _ (.cons _ (.cons _ (.cons_cons _ (.cons _ (.cons _ (.cons _ .slnil))))))))))
     refine GL_nil ⟨fun _ => hpS15, ?_⟩
     refine GO_of_GL rfl ?_
     refine GL_call (wn_on rfl rfl rfl rfl) rfl rfl (ref_clSame _ _ _ _ L L _ (Sl.row (hp.get 0 rfl)) (hmv _ (hp.get 5 rfl)) rfl) rfl ?_
     rintro _ w ⟨rfl, hk⟩
     have hp := hp.comp hk
     have hpS16 := (hp.sub (.cons _ (.cons_cons _ (.cons _ (.cons _ (.cons _ (.cons_cons _ (.cons _ (.cons _ (.cons _ .slnil))))))))))
     refine GL_nil ⟨fun _ => hpS16, ?_⟩
     refine GO_rd rfl rfl (wn_on rfl rfl rfl rfl) rfl hpS16 (fun w hp => (rd_not rfl rfl)) ?_
     refine GO_rdT (v := .bool _) rfl (wn_none rfl) rfl (fun w => (rd_pickF rfl rfl rfl)) ?_
     refine GO_rdT (v := .bool _) rfl (wn_none rfl) rfl (fun w => (rd_move rfl rfl)) ?_
     refine GO_rdT (v := .bool _) rfl (wn_on rfl rfl rfl rfl) rfl (fun w => (rd_move rfl rfl)) ?_
     refine GO_rdT (v := .int _ _) rfl (wn_on rfl rfl rfl rfl) rfl (fun w => (rd_move rfl rfl)) ?_
     refine GO_rd rfl rfl (wn_on rfl rfl rfl rfl) rfl hpS16 (fun w hp => (rd_bin rfl rfl rfl (bo_boolE (q := false) bo_geq (by decide)))) ?_
     refine GO_rd rfl rfl (wn_on rfl rfl rfl rfl) rfl hpS16 (fun w hp => (rd_bin rfl rfl rfl (bo_boolE (bo_bneq Try.underlying4) rfl))) ?_
     refine GO_rdT (v := .bool _) rfl (wn_none rfl) rfl (fun w => (rd_pickF rfl rfl rfl)) ?_
     refine GO_rdT (v := .bool _) rfl (wn_none rfl) rfl (fun w => (rd_move rfl rfl)) ?_
     refine GO_rdT (v := .bool _) rfl (wn_on rfl rfl rfl rfl) rfl (fun w => (rd_move rfl rfl)) ?_
     refine GO_rdT (v := .bool _) rfl (wn_on rfl rfl rfl rfl) rfl (fun w => (rd_move rfl rfl)) ?_
     refine GO_pass rfl (nw_off rfl rfl rfl rfl rfl) rfl ?_
     refine GO_pass rfl (nw_off rfl rfl rfl rfl rfl) rfl ?_
     refine GO_pass rfl (nw_off rfl rfl rfl rfl rfl) rfl ?_
     refine GO_rdT (v := .bool _) rfl (wn_on rfl rfl rfl rfl) rfl (fun w => (rd_pickF rfl rfl rfl)) ?_
     refine GO_rdT (v := .bool _) rfl (wn_none rfl) rfl (fun w => (rd_pickF rfl rfl rfl)) ?_
     refine GO_rdT (v := .bool _) rfl (wn_none rfl) rfl (fun w => (rd_move rfl rfl)) ?_
     refine GO_rdT (v := .bool _) rfl (wn_on rfl rfl rfl rfl) rfl (fun w => (rd_move rfl rfl)) ?_
     refine GO_rdT (v := .int _ _) rfl (wn_on rfl rfl rfl rfl) rfl (fun w => (rd_move rfl rfl)) ?_
     refine GO_rd rfl rfl (wn_on rfl rfl rfl rfl) rfl hpS16 (fun w hp => (rd_bin rfl rfl rfl (bo_boolE (q := true) bo_geq (decide_eq_true (by omega))))) ?_
     refine GO_rdT (v := .bool _) rfl (wn_on rfl rfl rfl rfl) rfl (fun w => (rd_move rfl rfl)) ?_
     refine GO_rdT (v := .int _ _) rfl (wn_on rfl rfl rfl rfl) rfl (fun w => (rd_move rfl rfl)) ?_
     refine GO_rdT (v := _) rfl (wn_on rfl rfl rfl rfl) rfl (fun w => (rd_move rfl rfl)) ?_
     refine GO_rd rfl rfl (wn_on rfl rfl rfl rfl) rfl hpS16 (fun w hp => (rd_len rfl rfl Try.underlying90)) ?_
     refine GO_rd rfl rfl (wn_on rfl rfl rfl rfl) rfl hpS16 (fun w hp => (rd_bin rfl rfl rfl (bo_boolE (q := false) bo_lss (decide_eq_false (by omega))))) ?_
     refine GO_rdT (v := .bool _) rfl (wn_on rfl rfl rfl rfl) rfl (fun w => (rd_pickT rfl rfl rfl)) ?_
     refine GO_rd rfl rfl (wn_on rfl rfl rfl rfl) rfl hpS16 (fun w hp => (rd_bin rfl rfl rfl (bo_boolE (bo_bneq Try.underlying4) rfl))) ?_
     refine GO_rdT (v := .bool _) rfl (wn_none rfl) rfl (fun w => (rd_pickF rfl rfl rfl)) ?_
     refine GO_rdT (v := .bool _) rfl (wn_none rfl) rfl (fun w => (rd_move rfl rfl)) ?_
     refine GO_rdT (v := .bool _) rfl (wn_on rfl rfl rfl rfl) rfl (fun w => (rd_move rfl rfl)) ?_
     refine GO_rdT (v := .bool _) rfl (wn_on rfl rfl rfl rfl) rfl (fun w => (rd_move rfl rfl)) ?_
     refine GO_pass rfl (nw_off rfl rfl rfl rfl rfl) rfl ?_
     refine GO_pass rfl (nw_off rfl rfl rfl rfl rfl) rfl ?_
     refine GO_pass rfl (nw_off rfl rfl rfl rfl rfl) rfl ?_
     refine GO_pass rfl (nw_off rfl rfl rfl rfl rfl) rfl ?_
     refine GO_pass rfl (nw_off rfl rfl rfl rfl rfl) rfl ?_
     refine GO_pass rfl (nw_off rfl rfl rfl rfl rfl) rfl ?_
     refine GO_rdT (v := .bool _) rfl (wn_on rfl rfl rfl rfl) rfl (fun w => (rd_pickF rfl rfl rfl)) ?_
     refine GO_rdT (v := .bool _) rfl (wn_none rfl) rfl (fun w => (rd_pickF rfl rfl rfl)) ?_
     refine GO_rdT (v := .bool _) rfl (wn_none rfl) rfl (fun w => (rd_move rfl rfl)) ?_
     refine GO_rdT (v := .string _) rfl (wn_on rfl rfl rfl rfl) rfl (fun w => (rd_move rfl rfl)) ?_
     refine GO_rdT (v := .string _) rfl (wn_on rfl rfl rfl rfl) rfl (fun w => (rd_move rfl rfl)) ?_
     refine GO_of_GL rfl ?_
     refine GL_call (wn_on rfl rfl rfl rfl) rfl rfl (cl_Name nm _ hnm) rfl ?_
     rintro _ w ⟨rfl, hk⟩
     have hp := hp.comp hk
     have hpS17 := (hp.sub (.cons _ (.cons_cons _ (.cons _ (.cons _ (.cons _ (.cons_cons _ (.cons _ (.cons _ (.cons _ .slnil))))))))))
     refine GL_nil ⟨fun _ => hpS17, ?_⟩
     refine GO_of_GL rfl ?_
     refine GL_call (wn_on rfl rfl rfl rfl) rfl rfl (ref_clName nm _ hnm) rfl ?_
     rintro _ w ⟨rfl, hk⟩
     have hp := hp.comp hk
     have hpS18 := (hp.sub (.cons _ (.cons_cons _ (.cons _ (.cons _ (.cons _ (.cons_cons _ (.cons _ (.cons _ (.cons _ .slnil))))))))))
     refine GL_nil ⟨fun _ => hpS18, ?_⟩
     refine GO_rd rfl rfl (wn_on rfl rfl rfl rfl) rfl hpS18 (fun w hp => (rd_bin rfl rfl rfl (bo_neqS rfl))) ?_
     refine GO_rdT (v := .bool _) rfl (wn_none rfl) rfl (fun w => (rd_pickF rfl rfl rfl)) ?_
     refine GO_nil ?_
     refine GW_false rfl ?_
     refine GW_skip ?_
     refine GW_seq ?_
     refine GW_region ?_
     refine GL_rd (v := .pointer (some ⟨_, _, none⟩)) (wn_none rfl) rfl (rd_move rfl rfl) ?_
     refine GL_rd (wn_none rfl) rfl (rd_buildS (L := clC ⟨⟨#[111, 110, 101, 45, 109, 111, 114, 101]⟩, 0, false, false⟩) rfl tz97 pl97 (by kernel_rfl)) ?_
     have hp := (((hp.front 8 rfl).front 8 rfl).front 8 rfl)
     refine GL_call (wn_none rfl) rfl rfl (cl_Add gq mq _ _ L _ ⟨⟨#[111, 110, 101, 45, 109, 111, 114, 101]⟩, 0, false, false⟩ _ (by omega) (by decide) (hp.ownsT 3)) rfl ?_
     rintro _ w ⟨rfl, sv5, hk⟩
     have hp := hp.turnsT 3 hk
     refine GL_nil ?_
     refine GW_seq ?_
     refine GW_region ?_
     refine GL_rd (v := .pointer (some ⟨_, _, none⟩)) (wn_none rfl) rfl (rd_move rfl rfl) ?_
     refine GL_rd (v := .string _) (wn_none rfl) rfl (rd_move rfl rfl) ?_
     have hp := (((hp.front 2 rfl).front 2 rfl).front 2 rfl)
     refine GL_call (wn_none rfl) rfl rfl (cl_Longer gq mq _ _ (claL L ⟨⟨#[111, 110, 101, 45, 109, 111, 114, 101]⟩, 0, false, false⟩) _ nm 1099511627776 _ (by have := (hok.add ⟨⟨#[111, 110, 101, 45, 109, 111, 114, 101]⟩, 0, false, false⟩).1; omega) (hp.ownsT 3)) rfl ?_
     rintro _ w ⟨rfl, sv6, hk⟩
     have hp := hp.turnsT 3 hk
     refine GL_nil ?_
     refine GW_seq ?_
     refine GW_region ?_
     refine GL_rd (v := .pointer (some ⟨_, _, none⟩)) (wn_none rfl) rfl (rd_move rfl rfl) ?_
     refine GL_call (wn_none rfl) rfl rfl (cl_All gk mk _ _ L _ (hp.get 5 rfl) (Sl.row (hp.get 6 rfl)) (hp.get 7 rfl) (by omega)) rfl ?_
     intro vb w hk
     have hp := hp.comp hk
     refine GL_rd (v := _) (wn_none rfl) rfl (rd_move rfl rfl) ?_
     refine GL_call (wn_none rfl) rfl rfl (ref_clSame _ _ _ _ L L _ (Sl.row (hp.get 0 rfl)) (hmv _ (hp.get 9 rfl)) rfl) rfl ?_
     rintro _ w ⟨rfl, hk⟩
     have hp := hp.comp hk
     refine GL_rd (v := .bool _) (wn_none rfl) rfl (rd_move rfl rfl) ?_
     refine GL_call (wn_on rfl rfl rfl rfl) rfl rfl (cl_works _) rfl ?_
     rintro _ w ⟨rfl, hk⟩
     have hp := hp.comp hk
     refine GL_rd (v := .bool _) (wn_none rfl) rfl (rd_pickT rfl rfl rfl) ?_
     refine GL_rd (v := .bool _) (wn_none rfl) rfl (rd_assign rfl rfl) ?_
     refine GL_nil ?_
     refine GW_ret ?_
     exact ⟨_, res1 Try.results10 (rv_tmp (v := .bool _) rfl rfl), rfl, hp.mods⟩
   | some a =>
    refine GW_region ?_
    refine GL_rd (v := .pointer (some ⟨_, _, none⟩)) (wn_none rfl) rfl (rd_move rfl rfl) ?_
    refine GL_rd (v := .string _) (wn_none rfl) rfl (rd_move rfl rfl) ?_
    refine GL_call (wn_none rfl) rfl rfl (cl_Find gq mq _ _ L nm _ (hp.get 4 rfl) (Sl.row (hp.get 5 rfl)) (hp.get 6 rfl)) rfl ?_
    rintro _ w ⟨rfl, hk⟩
    have hp := hp.comp hk
    rw [hfi]
    refine GL_rd (v := .tuple _) (wn_none rfl) rfl (rd_move rfl rfl) ?_
    refine GL_rd (v := .int _ _) (wn_none rfl) rfl (rd_extract rfl rfl rfl) ?_
    refine GL_rd (v := .bool _) (wn_none rfl) rfl (rd_extract rfl rfl rfl) ?_
    refine GL_rd (v := .int _ _) (wn_none rfl) rfl (rd_assign rfl rfl) ?_
    refine GL_rd (v := .bool _) (wn_none rfl) rfl (rd_assign rfl rfl) ?_
    refine GL_nil ?_
    refine GW_seq ?_
    refine GW_region ?_
    refine GL_rd (v := _) (wn_none rfl) rfl (rd_move rfl rfl) ?_
    refine GL_rd (v := .string _) (wn_none rfl) rfl (rd_move rfl rfl) ?_
    refine GL_call (wn_none rfl) rfl rfl (ref_clFind _ _ L nm _ (hmv _ (hp.get 3 rfl)) (by omega)) rfl ?_
    rintro _ w ⟨rfl, hk⟩
    have hp := hp.comp hk
    rw [findV, hfi]
    refine GL_rd (v := .int _ _) (wn_none rfl) rfl (rd_assign rfl rfl) ?_
    refine GL_nil ?_
    refine GW_seq ?_
    rcases (show (0 ≤ i ∧ i < (L.length : Int)) ∨ i < 0 ∨ (0 ≤ i ∧ (L.length : Int) ≤ i) by omega) with hin | hin | hin
    ·skip
     obtain ⟨gM, bM, rfl⟩ := (hmv _ (hp.get 3 rfl)).addr (by rw [flat_length clC_len]; omega)
     refine GW_region ?_
     refine GL_rd (v := .pointer (some ⟨_, _, none⟩)) (wn_none rfl) rfl (rd_move rfl rfl) ?_
     refine GL_rd (v := .int _ _) (wn_none rfl) rfl (rd_move rfl rfl) ?_
     refine GL_call (wn_none rfl) rfl rfl (cl_Get gq mq _ _ L i _ (hp.get 4 rfl) (Sl.row (hp.get 5 rfl)) (hp.get 6 rfl)) rfl ?_
     rintro _ w ⟨rfl, hk⟩
     have hp := hp.comp hk
     rw [if_pos hin, decide_eq_true hin]
     refine GL_rd (v := .tuple _) (wn_none rfl) rfl (rd_move rfl rfl) ?_
     refine GL_rd (v := .agg ⟨_⟩) (wn_none rfl) rfl (rd_extract rfl rfl rfl) ?_
     refine GL_rd (v := .bool _) (wn_none rfl) rfl (rd_extract rfl rfl rfl) ?_
     refine GL_alloc (wn_none rfl) rfl rfl tz97 rfl hp ?_
     intro g4 w hp
     refine GL_store (i := 0) (wn_none rfl) rfl rfl rfl rfl ts97 rfl rfl (clC_one _) hp rfl (by decide) rfl ?_
     intro w hp
     refine GL_rd (v := .bool _) (wn_none rfl) rfl (rd_assign rfl rfl) ?_
     refine GL_nil ?_
     refine GW_seq ?_
     refine GW_seq ?_
     refine GW_drawnK 60 (.one 0 true (.one 1 true (.one 2 true (.one 3 true (.one 5 true (.one 6 true (.one 4 false (.one 7 true (.one 8 true (.one 9 true (.one 10 true (.one 12 true (.one 11 false (.one 13 false (.one 14 true (.one 15 true (.one 16 true (.one 17 true (.one 18 true (.one 19 true (.one 20 true (.one 21 true (.one 22 true (.one 23 true (.one 24 true (.one 25 true (.one 26 true (.one 27 true (.one 28 true (.one 29 true (.one 30 true (.one 31 true (.one 32 true (.one 33 true (.one 34 true (.one 35 true (.one 36 true (.one 37 true (.one 38 true (.one 39 true (.one 40 true (.one 41 true (.one 42 true (.one 43 true (.one 44 true (.one 45 true (.one 46 true (.one 47 true (.one 48 true (.one 49 true (.one 50 true (.one 51 true (.one 52 true (.one 53 true (.one 54 true (.one 56 true (.one 55 false (.one 57 false (.one 58 true (.one 59 true .nil)))))))))))))))))))))))))))))))))))))))))))))))))))))))))))) mixed (by kernel_rfl) hp (fun _ h => (h.sub (.cons_cons _ (.cons _ (.cons _ (.cons _ (.cons_cons _ (.cons _ (.cons _ (.cons _ .slnil)))))))))) fun w hp => ?_
     have hpS19 := (hp.sub (.cons_cons _ (.cons _ (.cons _ (.cons _ (.cons_cons _ (.cons _ (.cons _ (.cons _ .slnil)))))))))
     refine GO_rdT (v := .pointer (some ⟨_, _, none⟩)) rfl (wn_none rfl) rfl (fun w => (rd_move rfl rfl)) ?_
     refine GO_rd rfl rfl (wn_none rfl) rfl hpS19 (fun w hp => (rd_bin rfl rfl rfl (bo_pnil Try.underlying89))) ?_
     refine GO_rdT (v := .bool _) rfl (wn_none rfl) rfl (fun w => (rd_move rfl rfl)) ?_
     refine GO_rdT (v := .pointer (some ⟨_, _, none⟩)) rfl (wn_on rfl rfl rfl rfl) rfl (fun w => (rd_move rfl rfl)) ?_
     refine GO_rdT (v := _) rfl (wn_on rfl rfl rfl rfl) rfl (fun w => (rd_move rfl rfl)) ?_
     refine GO_rd rfl rfl (wn_on rfl rfl rfl rfl) rfl hpS19 (fun w hp => (rd_len rfl rfl Try.underlying90)) ?_
     refine GO_of_GL rfl ?_
     refine GL_call (wn_on rfl rfl rfl rfl) rfl rfl (cl_Len gq mq _ _ L _ (hp.get 5 rfl) (Sl.row (hp.get 6 rfl)) (hp.get 7 rfl)) rfl ?_
     rintro _ w ⟨rfl, hk⟩
     have hp := hp.comp hk
     have hpS20 := (hp.sub (.cons_cons _ (.cons _ (.cons _ (.cons _ (.cons_cons _ (.cons _ (.cons _ (.cons _ .slnil)))))))))
     refine GL_nil ⟨fun _ => hpS20, ?_⟩
     refine GO_rd rfl rfl (wn_on rfl rfl rfl rfl) rfl hpS20 (fun w hp => (rd_bin rfl rfl rfl (bo_neqS rfl))) ?_
     refine GO_rdT (v := .bool _) rfl (wn_none rfl) rfl (fun w => (rd_pickF rfl rfl rfl)) ?_
     refine GO_rdT (v := .bool _) rfl (wn_none rfl) rfl (fun w => (rd_move rfl rfl)) ?_
     refine GO_rdT (v := .pointer (some ⟨_, _, none⟩)) rfl (wn_on rfl rfl rfl rfl) rfl (fun w => (rd_move rfl rfl)) ?_
     refine GO_rdT (v := _) rfl (wn_on rfl rfl rfl rfl) rfl (fun w => (rd_move rfl rfl)) ?_
     refine GO_of_GL rfl ?_
     refine GL_call (wn_on rfl rfl rfl rfl) rfl rfl (cl_All gq mq _ _ L _ (hp.get 5 rfl) (Sl.row (hp.get 6 rfl)) (hp.get 7 rfl) (by omega)) rfl ?_
     intro va w hk
     have hp := hp.comp hk
     have hpS21 := (hp.sub (.cons _ (.cons_cons _ (.cons _ (.cons _ (.cons _ (.cons_cons _ (.cons _ (.cons _ (.cons _ .slnil))))))))))
     refine GL_nil ⟨fun _ => hpS21, ?_⟩
     refine GO_of_GL rfl ?_
     refine GL_call (wn_on rfl rfl rfl rfl) rfl rfl (ref_clSame _ _ _ _ L L _ (Sl.row (hp.get 0 rfl)) (hmv _ (hp.get 5 rfl)) rfl) rfl ?_
     rintro _ w ⟨rfl, hk⟩
     have hp := hp.comp hk
     have hpS22 := (hp.sub (.cons _ (.cons_cons _ (.cons _ (.cons _ (.cons _ (.cons_cons _ (.cons _ (.cons _ (.cons _ .slnil))))))))))
     refine GL_nil ⟨fun _ => hpS22, ?_⟩
     refine GO_rd rfl rfl (wn_on rfl rfl rfl rfl) rfl hpS22 (fun w hp => (rd_not rfl rfl)) ?_
     refine GO_rdT (v := .bool _) rfl (wn_none rfl) rfl (fun w => (rd_pickF rfl rfl rfl)) ?_
     refine GO_rdT (v := .bool _) rfl (wn_none rfl) rfl (fun w => (rd_move rfl rfl)) ?_
     refine GO_rdT (v := .bool _) rfl (wn_on rfl rfl rfl rfl) rfl (fun w => (rd_move rfl rfl)) ?_
     refine GO_rdT (v := .int _ _) rfl (wn_on rfl rfl rfl rfl) rfl (fun w => (rd_move rfl rfl)) ?_
     refine GO_rd rfl rfl (wn_on rfl rfl rfl rfl) rfl hpS22 (fun w hp => (rd_bin rfl rfl rfl (bo_boolE (q := true) bo_geq (decide_eq_true (Int.natCast_nonneg _))))) ?_
     refine GO_rd rfl rfl (wn_on rfl rfl rfl rfl) rfl hpS22 (fun w hp => (rd_bin rfl rfl rfl (bo_boolE (bo_bneq Try.underlying4) rfl))) ?_
     refine GO_rdT (v := .bool _) rfl (wn_none rfl) rfl (fun w => (rd_pickF rfl rfl rfl)) ?_
     refine GO_rdT (v := .bool _) rfl (wn_none rfl) rfl (fun w => (rd_move rfl rfl)) ?_
     refine GO_rdT (v := .bool _) rfl (wn_on rfl rfl rfl rfl) rfl (fun w => (rd_move rfl rfl)) ?_
     refine GO_rdT (v := .bool _) rfl (wn_on rfl rfl rfl rfl) rfl (fun w => (rd_move rfl rfl)) ?_
     refine GO_rdT (v := .int _ _) rfl (wn_on rfl rfl rfl rfl) rfl (fun w => (rd_move rfl rfl)) ?_
     refine GO_rdT (v := .int _ _) rfl (wn_on rfl rfl rfl rfl) rfl (fun w => (rd_move rfl rfl)) ?_
     refine GO_rd rfl rfl (wn_on rfl rfl rfl rfl) rfl hpS22 (fun w hp => (rd_bin rfl rfl rfl (bo_neqS rfl))) ?_
     refine GO_rdT (v := .bool _) rfl (wn_on rfl rfl rfl rfl) rfl (fun w => (rd_pickT rfl rfl rfl)) ?_
     refine GO_rdT (v := .bool _) rfl (wn_none rfl) rfl (fun w => (rd_pickF rfl rfl rfl)) ?_
     refine GO_rdT (v := .bool _) rfl (wn_none rfl) rfl (fun w => (rd_move rfl rfl)) ?_
     refine GO_rdT (v := .bool _) rfl (wn_on rfl rfl rfl rfl) rfl (fun w => (rd_move rfl rfl)) ?_
     refine GO_rdT (v := .int _ _) rfl (wn_on rfl rfl rfl rfl) rfl (fun w => (rd_move rfl rfl)) ?_
     refine GO_rd rfl rfl (wn_on rfl rfl rfl rfl) rfl hpS22 (fun w hp => (rd_bin rfl rfl rfl (bo_boolE (q := true) bo_geq (decide_eq_true (by omega))))) ?_
     refine GO_rdT (v := .bool _) rfl (wn_on rfl rfl rfl rfl) rfl (fun w => (rd_move rfl rfl)) ?_
     refine GO_rdT (v := .int _ _) rfl (wn_on rfl rfl rfl rfl) rfl (fun w => (rd_move rfl rfl)) ?_
     refine GO_rdT (v := _) rfl (wn_on rfl rfl rfl rfl) rfl (fun w => (rd_move rfl rfl)) ?_
     refine GO_rd rfl rfl (wn_on rfl rfl rfl rfl) rfl hpS22 (fun w hp => (rd_len rfl rfl Try.underlying90)) ?_
     refine GO_rd rfl rfl (wn_on rfl rfl rfl rfl) rfl hpS22 (fun w hp => (rd_bin rfl rfl rfl (bo_boolE (q := true) bo_lss (decide_eq_true (by omega))))) ?_
     refine GO_rdT (v := .bool _) rfl (wn_on rfl rfl rfl rfl) rfl (fun w => (rd_pickT rfl rfl rfl)) ?_
     refine GO_rd rfl rfl (wn_on rfl rfl rfl rfl) rfl hpS22 (fun w hp => (rd_bin rfl rfl rfl (bo_boolE (bo_bneq Try.underlying4) rfl))) ?_
     refine GO_rdT (v := .bool _) rfl (wn_none rfl) rfl (fun w => (rd_pickF rfl rfl rfl)) ?_
     refine GO_rdT (v := .bool _) rfl (wn_none rfl) rfl (fun w => (rd_move rfl rfl)) ?_
     refine GO_rdT (v := .bool _) rfl (wn_on rfl rfl rfl rfl) rfl (fun w => (rd_move rfl rfl)) ?_
     refine GO_rdT (v := .bool _) rfl (wn_on rfl rfl rfl rfl) rfl (fun w => (rd_move rfl rfl)) ?_
     refine GO_rd rfl rfl (wn_on rfl rfl rfl rfl) rfl hpS22 (fun w hp => (rd_loadC rfl rfl Try.underlying97 rfl ts97 (hp.get 0 rfl) (by first | rfl | simp [bys_length, *]))) ?_
     refine GO_rdT (v := _) rfl (wn_on rfl rfl rfl rfl) rfl (fun w => (rd_move rfl rfl)) ?_
     refine GO_rdT (v := .int _ _) rfl (wn_on rfl rfl rfl rfl) rfl (fun w => (rd_move rfl rfl)) ?_
     refine GO_rdT rfl (wn_on rfl rfl rfl rfl) rfl (fun w => (rd_indexS (j := i.toNat) rfl rfl rfl Try.underlying90 ts97 (by omega) (by omega) _ rfl)) ?_
     refine GO_rd rfl rfl (wn_on rfl rfl rfl rfl) rfl hpS22 (fun w hp => (rd_loadN (L := clC (clAt L i.toNat)) rfl rfl Try.underlying97 rfl ts97 rfl (fun j u hj => (hmv _ (hp.get 1 rfl)).elem clC_len i.toNat j (clC_lt hj) (clAt_some (by omega)) hj))) ?_
     refine GO_rd rfl rfl (wn_on rfl rfl rfl rfl) rfl hpS22 (fun w hp => (rd_bin rfl rfl rfl (bo_boolE (q := false) (bo_cls clsAt).2 (by rw [clsEq_iff.2 rfl]; rfl)))) ?_
     refine GO_rdT (v := .bool _) rfl (wn_on rfl rfl rfl rfl) rfl (fun w => (rd_pickT rfl rfl rfl)) ?_
     refine GO_rdT (v := .bool _) rfl (wn_none rfl) rfl (fun w => (rd_pickF rfl rfl rfl)) ?_
     refine GO_rdT (v := .bool _) rfl (wn_none rfl) rfl (fun w => (rd_move rfl rfl)) ?_
     refine GO_rdT (v := .string _) rfl (wn_on rfl rfl rfl rfl) rfl (fun w => (rd_move rfl rfl)) ?_
     refine GO_rdT (v := .string _) rfl (wn_on rfl rfl rfl rfl) rfl (fun w => (rd_move rfl rfl)) ?_
     refine GO_of_GL rfl ?_
     refine GL_call (wn_on rfl rfl rfl rfl) rfl rfl (cl_Name nm _ hnm) rfl ?_
     rintro _ w ⟨rfl, hk⟩
     have hp := hp.comp hk
     have hpS23 := (hp.sub (.cons _ (.cons_cons _ (.cons _ (.cons _ (.cons _ (.cons_cons _ (.cons _ (.cons _ (.cons _ .slnil))))))))))
     refine GL_nil ⟨fun _ => hpS23, ?_⟩
     refine GO_of_GL rfl ?_
     refine GL_call (wn_on rfl rfl rfl rfl) rfl rfl (ref_clName nm _ hnm) rfl ?_
     rintro _ w ⟨rfl, hk⟩
     have hp := hp.comp hk
     have hpS24 := (hp.sub (.cons _ (.cons_cons _ (.cons _ (.cons _ (.cons _ (.cons_cons _ (.cons _ (.cons _ (.cons _ .slnil))))))))))
     refine GL_nil ⟨fun _ => hpS24, ?_⟩
     refine GO_rd rfl rfl (wn_on rfl rfl rfl rfl) rfl hpS24 (fun w hp => (rd_bin rfl rfl rfl (bo_neqS rfl))) ?_
     refine GO_rdT (v := .bool _) rfl (wn_none rfl) rfl (fun w => (rd_pickF rfl rfl rfl)) ?_
     refine GO_nil ?_
     refine GW_false rfl ?_
     refine GW_skip ?_
     refine GW_seq ?_
     refine GW_region ?_
     refine GL_rd (v := .pointer (some ⟨_, _, none⟩)) (wn_none rfl) rfl (rd_move rfl rfl) ?_
     refine GL_rd (wn_none rfl) rfl (rd_buildS (L := clC ⟨⟨#[111, 110, 101, 45, 109, 111, 114, 101]⟩, 0, false, false⟩) rfl tz97 pl97 (by kernel_rfl)) ?_
     have hp := (((hp.front 8 rfl).front 8 rfl).front 8 rfl)
     refine GL_call (wn_none rfl) rfl rfl (cl_Add gq mq _ _ L _ ⟨⟨#[111, 110, 101, 45, 109, 111, 114, 101]⟩, 0, false, false⟩ _ (by omega) (by decide) (hp.ownsT 3)) rfl ?_
     rintro _ w ⟨rfl, sv5, hk⟩
     have hp := hp.turnsT 3 hk
     refine GL_nil ?_
     refine GW_seq ?_
     refine GW_region ?_
     refine GL_rd (v := .pointer (some ⟨_, _, none⟩)) (wn_none rfl) rfl (rd_move rfl rfl) ?_
     refine GL_rd (v := .string _) (wn_none rfl) rfl (rd_move rfl rfl) ?_
     have hp := (((hp.front 2 rfl).front 2 rfl).front 2 rfl)
     refine GL_call (wn_none rfl) rfl rfl (cl_Longer gq mq _ _ (claL L ⟨⟨#[111, 110, 101, 45, 109, 111, 114, 101]⟩, 0, false, false⟩) _ nm 1099511627776 _ (by have := (hok.add ⟨⟨#[111, 110, 101, 45, 109, 111, 114, 101]⟩, 0, false, false⟩).1; omega) (hp.ownsT 3)) rfl ?_
     rintro _ w ⟨rfl, sv6, hk⟩
     have hp := hp.turnsT 3 hk
     refine GL_nil ?_
     refine GW_seq ?_
     refine GW_region ?_
     refine GL_rd (v := .pointer (some ⟨_, _, none⟩)) (wn_none rfl) rfl (rd_move rfl rfl) ?_
     refine GL_call (wn_none rfl) rfl rfl (cl_All gk mk _ _ L _ (hp.get 5 rfl) (Sl.row (hp.get 6 rfl)) (hp.get 7 rfl) (by omega)) rfl ?_
     intro vb w hk
     have hp := hp.comp hk
     refine GL_rd (v := _) (wn_none rfl) rfl (rd_move rfl rfl) ?_
     refine GL_call (wn_none rfl) rfl rfl (ref_clSame _ _ _ _ L L _ (Sl.row (hp.get 0 rfl)) (hmv _ (hp.get 9 rfl)) rfl) rfl ?_
     rintro _ w ⟨rfl, hk⟩
     have hp := hp.comp hk
     refine GL_rd (v := .bool _) (wn_none rfl) rfl (rd_move rfl rfl) ?_
     refine GL_call (wn_on rfl rfl rfl rfl) rfl rfl (cl_works _) rfl ?_
     rintro _ w ⟨rfl, hk⟩
     have hp := hp.comp hk
     refine GL_rd (v := .bool _) (wn_none rfl) rfl (rd_pickT rfl rfl rfl) ?_
     refine GL_rd (v := .bool _) (wn_none rfl) rfl (rd_assign rfl rfl) ?_
     refine GL_nil ?_
     refine GW_ret ?_
     exact ⟨_, res1 Try.results10 (rv_tmp (v := .bool _) rfl rfl), rfl, hp.mods⟩
    ·skip
     refine GW_region ?_
     refine GL_rd (v := .pointer (some ⟨_, _, none⟩)) (wn_none rfl) rfl (rd_move rfl rfl) ?_
     refine GL_rd (v := .int _ _) (wn_none rfl) rfl (rd_move rfl rfl) ?_
     refine GL_call (wn_none rfl) rfl rfl (cl_Get gq mq _ _ L i _ (hp.get 4 rfl) (Sl.row (hp.get 5 rfl)) (hp.get 6 rfl)) rfl ?_
     rintro _ w ⟨rfl, hk⟩
     have hp := hp.comp hk
     rw [if_neg (show ¬ (0 ≤ i ∧ i < (L.length : Int)) by omega), decide_eq_false (show ¬ (0 ≤ i ∧ i < (L.length : Int)) by omega)]
     refine GL_rd (v := .tuple _) (wn_none rfl) rfl (rd_move rfl rfl) ?_
     refine GL_rd (v := .agg ⟨_⟩) (wn_none rfl) rfl (rd_extract rfl rfl rfl) ?_
     refine GL_rd (v := .bool _) (wn_none rfl) rfl (rd_extract rfl rfl rfl) ?_
     refine GL_alloc (wn_none rfl) rfl rfl tz97 rfl hp ?_
     intro g5 w hp
     refine GL_store (i := 0) (wn_none rfl) rfl rfl rfl rfl ts97 rfl rfl (clC_one _) hp rfl (by decide) rfl ?_
     intro w hp
     refine GL_rd (v := .bool _) (wn_none rfl) rfl (rd_assign rfl rfl) ?_
     refine GL_nil ?_
     refine GW_seq ?_
     refine GW_seq ?_
     refine GW_drawnK 60 (.one 0 true (.one 1 true (.one 2 true (.one 3 true (.one 5 true (.one 6 true (.one 4 false (.one 7 true (.one 8 true (.one 9 true (.one 10 true (.one 12 true (.one 11 false (.one 13 false (.one 14 true (.one 15 true (.one 16 true (.one 17 true (.one 18 true (.one 19 true (.one 20 true (.one 21 true (.one 22 true (.one 23 true (.one 24 true (.one 25 true (.one 26 true (.one 27 true (.one 28 true (.one 29 true (.one 30 true (.one 31 true (.one 32 true (.one 33 true (.one 34 true (.one 35 true (.one 36 true (.one 37 true (.one 38 true (.one 39 true (.one 40 true (.one 41 true (.one 42 true (.one 43 true (.one 44 true (.one 45 true (.one 46 true (.one 47 true (.one 48 true (.one 49 true (.one 50 true (.one 51 true (.one 52 true (.one 53 true (.one 54 true (.one 56 true (.one 55 false (.one 57 false (.one 58 true (.one 59 true .nil)))))))))))))))))))))))))))))))))))))))))))))))))))))))))))) mixed (by kernel_rfl) hp (fun _ h => (h.sub (.cons_cons _ (.cons _ (.cons _ (.cons _ (.cons_cons _ (.cons _ (.cons _ (.cons _ .slnil)))))))))) fun w hp => ?_
     have hpS25 := (hp.sub (.cons_cons _ (.cons _ (.cons _ (.cons _ (.cons_cons _ (.cons _ (.cons _ (.cons _ .slnil)))))))))
     refine GO_rdT (v := .pointer (some ⟨_, _, none⟩)) rfl (wn_none rfl) rfl (fun w => (rd_move rfl rfl)) ?_
     refine GO_rd rfl rfl (wn_none rfl) rfl hpS25 (fun w hp => (rd_bin rfl rfl rfl (bo_pnil Try.underlying89))) ?_
     refine GO_rdT (v := .bool _) rfl (wn_none rfl) rfl (fun w => (rd_move rfl rfl)) ?_
     refine GO_rdT (v := .pointer (some ⟨_, _, none⟩)) rfl (wn_on rfl rfl rfl rfl) rfl (fun w => (rd_move rfl rfl)) ?_
     refine GO_rdT (v := _) rfl (wn_on rfl rfl rfl rfl) rfl (fun w => (rd_move rfl rfl)) ?_
     refine GO_rd rfl rfl (wn_on rfl rfl rfl rfl) rfl hpS25 (fun w hp => (rd_len rfl rfl Try.underlying90)) ?_
     refine GO_of_GL rfl ?_
     refine GL_call (wn_on rfl rfl rfl rfl) rfl rfl (cl_Len gq mq _ _ L _ (hp.get 5 rfl) (Sl.row (hp.get 6 rfl)) (hp.get 7 rfl)) rfl ?_
     rintro _ w ⟨rfl, hk⟩
     have hp := hp.comp hk
     have hpS26 := (hp.sub (.cons_cons _ (.cons _ (.cons _ (.cons _ (.cons_cons _ (.cons _ (.cons _ (.cons _ .slnil)))))))))
     refine GL_nil ⟨fun _ => hpS26, ?_⟩
     refine GO_rd rfl rfl (wn_on rfl rfl rfl rfl) rfl hpS26 (fun w hp => (rd_bin rfl rfl rfl (bo_neqS rfl))) ?_
     refine GO_rdT (v := .bool _) rfl (wn_none rfl) rfl (fun w => (rd_pickF rfl rfl rfl)) ?_
     refine GO_rdT (v := .bool _) rfl (wn_none rfl) rfl (fun w => (rd_move rfl rfl)) ?_
     refine GO_rdT (v := .pointer (some ⟨_, _, none⟩)) rfl (wn_on rfl rfl rfl rfl) rfl (fun w => (rd_move rfl rfl)) ?_
     refine GO_rdT (v := _) rfl (wn_on rfl rfl rfl rfl) rfl (fun w => (rd_move rfl rfl)) ?_
     refine GO_of_GL rfl ?_
     refine GL_call (wn_on rfl rfl rfl rfl) rfl rfl (cl_All gq mq _ _ L _ (hp.get 5 rfl) (Sl.row (hp.get 6 rfl)) (hp.get 7 rfl) (by omega)) rfl ?_
     intro va w hk
     have hp := hp.comp hk
     have hpS27 := (hp.sub (.cons _ (.cons_cons _ (.cons _ (.cons _ (.cons _ (.cons_cons _ (.cons _ (.cons _ (.cons _ .slnil))))))))))
     refine GL_nil ⟨fun _ => hpS27, ?_⟩
     refine GO_of_GL rfl ?_
     refine GL_call (wn_on rfl rfl rfl rfl) rfl rfl (ref_clSame _ _ _ _ L L _ (Sl.row (hp.get 0 rfl)) (hmv _ (hp.get 5 rfl)) rfl) rfl ?_
     rintro _ w ⟨rfl, hk⟩
     have hp := hp.comp hk
     have hpS28 := (hp.sub (.cons _ (.cons_cons _ (.cons _ (.cons _ (.cons _ (.cons_cons _ (.cons _ (.cons _ (.cons _ .slnil))))))))))
     refine GL_nil ⟨fun _ => hpS28, ?_⟩
     refine GO_rd rfl rfl (wn_on rfl rfl rfl rfl) rfl hpS28 (fun w hp => (rd_not rfl rfl)) ?_
     refine GO_rdT (v := .bool _) rfl (wn_none rfl) rfl (fun w => (rd_pickF rfl rfl rfl)) ?_
     refine GO_rdT (v := .bool _) rfl (wn_none rfl) rfl (fun w => (rd_move rfl rfl)) ?_
     refine GO_rdT (v := .bool _) rfl (wn_on rfl rfl rfl rfl) rfl (fun w => (rd_move rfl rfl)) ?_
     refine GO_rdT (v := .int _ _) rfl (wn_on rfl rfl rfl rfl) rfl (fun w => (rd_move rfl rfl)) ?_
     refine GO_rd rfl rfl (wn_on rfl rfl rfl rfl) rfl hpS28 (fun w hp => (rd_bin rfl rfl rfl (bo_boolE (q := true) bo_geq (decide_eq_true (Int.natCast_nonneg _))))) ?_
     refine GO_rd rfl rfl (wn_on rfl rfl rfl rfl) rfl hpS28 (fun w hp => (rd_bin rfl rfl rfl (bo_boolE (bo_bneq Try.underlying4) rfl))) ?_
     refine GO_rdT (v := .bool _) rfl (wn_none rfl) rfl (fun w => (rd_pickF rfl rfl rfl)) ?_
     refine GO_rdT (v := .bool _) rfl (wn_none rfl) rfl (fun w => (rd_move rfl rfl)) ?_
     refine GO_rdT (v := .bool _) rfl (wn_on rfl rfl rfl rfl) rfl (fun w => (rd_move rfl rfl)) ?_
     refine GO_rdT (v := .bool _) rfl (wn_on rfl rfl rfl rfl) rfl (fun w => (rd_move rfl rfl)) ?_
     refine GO_rdT (v := .int _ _) rfl (wn_on rfl rfl rfl rfl) rfl (fun w => (rd_move rfl rfl)) ?_
     refine GO_rdT (v := .int _ _) rfl (wn_on rfl rfl rfl rfl) rfl (fun w => (rd_move rfl rfl)) ?_
     refine GO_rd rfl rfl (wn_on rfl rfl rfl rfl) rfl hpS28 (fun w hp => (rd_bin rfl rfl rfl (bo_neqS rfl))) ?_
     refine GO_rdT (v := .bool _) rfl (wn_on rfl rfl rfl rfl) rfl (fun w => (rd_pickT rfl rfl rfl)) ?_
     refine GO_rdT (v := .bool _) rfl (wn_none rfl) rfl (fun w => (rd_pickF rfl rfl rfl)) ?_
     refine GO_rdT (v := .bool _) rfl (wn_none rfl) rfl (fun w => (rd_move rfl rfl)) ?_
     refine GO_rdT (v := .bool _) rfl (wn_on rfl rfl rfl rfl) rfl (fun w => (rd_move rfl rfl)) ?_
     refine GO_rdT (v := .int _ _) rfl (wn_on rfl rfl rfl rfl) rfl (fun w => (rd_move rfl rfl)) ?_
     refine GO_rd rfl rfl (wn_on rfl rfl rfl rfl) rfl hpS28 (fun w hp => (rd_bin rfl rfl rfl (bo_boolE (q := false) bo_geq (decide_eq_false (by omega))))) ?_
     refine GO_rdT (v := .bool _) rfl (wn_on rfl rfl rfl rfl) rfl (fun w => (rd_move rfl rfl)) ?_
     refine GO_pass rfl (nw_off rfl rfl rfl rfl rfl) rfl ?_
     refine GO_pass rfl (nw_off rfl rfl rfl rfl rfl) rfl ?_
     refine GO_pass rfl (nw_off rfl rfl rfl rfl rfl) rfl ?_
     refine GO_pass rfl (nw_off rfl rfl rfl rfl rfl) rfl ?_
     refine GO_rdT (v := .bool _) rfl (wn_on rfl rfl rfl rfl) rfl (fun w => (rd_pickF rfl rfl rfl)) ?_
     refine GO_rd rfl rfl (wn_on rfl rfl rfl rfl) rfl hpS28 (fun w hp => (rd_bin rfl rfl rfl (bo_boolE (bo_bneq Try.underlying4) rfl))) ?_
     refine GO_rdT (v := .bool _) rfl (wn_none rfl) rfl (fun w => (rd_pickF rfl rfl rfl)) ?_
     refine GO_rdT (v := .bool _) rfl (wn_none rfl) rfl (fun w => (rd_move rfl rfl)) ?_
     refine GO_rdT (v := .bool _) rfl (wn_on rfl rfl rfl rfl) rfl (fun w => (rd_move rfl rfl)) ?_
     refine GO_rdT (v := .bool _) rfl (wn_on rfl rfl rfl rfl) rfl (fun w => (rd_move rfl rfl)) ?_
     refine GO_pass rfl (nw_off rfl rfl rfl rfl rfl) rfl ?_
     refine GO_pass rfl (nw_off rfl rfl rfl rfl rfl) rfl ?_
     refine GO_pass rfl (nw_off rfl rfl rfl rfl rfl) rfl ?_
     refine GO_pass rfl (nw_off rfl rfl rfl rfl rfl) rfl ?_
     refine GO_pass rfl (nw_off rfl rfl rfl rfl rfl) rfl ?_
     refine GO_pass rfl (nw_off rfl rfl rfl rfl rfl) rfl ?_
     refine GO_rdT (v := .bool _) rfl (wn_on rfl rfl rfl rfl) rfl (fun w => (rd_pickF rfl rfl rfl)) ?_
     refine GO_rdT (v := .bool _) rfl (wn_none rfl) rfl (fun w => (rd_pickF rfl rfl rfl)) ?_
     refine GO_rdT (v := .bool _) rfl (wn_none rfl) rfl (fun w => (rd_move rfl rfl)) ?_
     refine GO_rdT (v := .string _) rfl (wn_on rfl rfl rfl rfl) rfl (fun w => (rd_move rfl rfl)) ?_
     refine GO_rdT (v := .string _) rfl (wn_on rfl rfl rfl rfl) rfl (fun w => (rd_move rfl rfl)) ?_
     refine GO_of_GL rfl ?_
     refine GL_call (wn_on rfl rfl rfl rfl) rfl rfl (cl_Name nm _ hnm) rfl ?_
     rintro _ w ⟨rfl, hk⟩
     have hp := hp.comp hk
     have hpS29 := (hp.sub (.cons _ (.cons_cons _ (.cons _ (.cons _ (.cons _ (.cons_cons _ (.cons _ (.cons _ (.cons _ .slnil))))))))))
     refine GL_nil ⟨fun _ => hpS29, ?_⟩
     refine GO_of_GL rfl ?_
     refine GL_call (wn_on rfl rfl rfl rfl) rfl rfl (ref_clName nm _ hnm) rfl ?_
     rintro _ w ⟨rfl, hk⟩
     have hp := hp.comp hk
     have hpS30 := (hp.sub (.cons _ (.cons_cons _ (.cons _ (.cons _ (.cons _ (.cons_cons _ (.cons _ (.cons _ (.cons _ .slnil))))))))))
     refine GL_nil ⟨fun _ => hpS30, ?_⟩
     refine GO_rd rfl rfl (wn_on rfl rfl rfl rfl) rfl hpS30 (fun w hp => (rd_bin rfl rfl rfl (bo_neqS rfl))) ?_
     refine GO_rdT (v := .bool _) rfl (wn_none rfl) rfl (fun w => (rd_pickF rfl rfl rfl)) ?_
     refine GO_nil ?_
     refine GW_false rfl ?_
     refine GW_skip ?_
     refine GW_seq ?_
     refine GW_region ?_
     refine GL_rd (v := .pointer (some ⟨_, _, none⟩)) (wn_none rfl) rfl (rd_move rfl rfl) ?_
     refine GL_rd (wn_none rfl) rfl (rd_buildS (L := clC ⟨⟨#[111, 110, 101, 45, 109, 111, 114, 101]⟩, 0, false, false⟩) rfl tz97 pl97 (by kernel_rfl)) ?_
     have hp := (((hp.front 8 rfl).front 8 rfl).front 8 rfl)
     refine GL_call (wn_none rfl) rfl rfl (cl_Add gq mq _ _ L _ ⟨⟨#[111, 110, 101, 45, 109, 111, 114, 101]⟩, 0, false, false⟩ _ (by omega) (by decide) (hp.ownsT 3)) rfl ?_
     rintro _ w ⟨rfl, sv5, hk⟩
     have hp := hp.turnsT 3 hk
     refine GL_nil ?_
     refine GW_seq ?_
     refine GW_region ?_
     refine GL_rd (v := .pointer (some ⟨_, _, none⟩)) (wn_none rfl) rfl (rd_move rfl rfl) ?_
     refine GL_rd (v := .string _) (wn_none rfl) rfl (rd_move rfl rfl) ?_
     have hp := (((hp.front 2 rfl).front 2 rfl).front 2 rfl)
     refine GL_call (wn_none rfl) rfl rfl (cl_Longer gq mq _ _ (claL L ⟨⟨#[111, 110, 101, 45, 109, 111, 114, 101]⟩, 0, false, false⟩) _ nm 1099511627776 _ (by have := (hok.add ⟨⟨#[111, 110, 101, 45, 109, 111, 114, 101]⟩, 0, false, false⟩).1; omega) (hp.ownsT 3)) rfl ?_
     rintro _ w ⟨rfl, sv6, hk⟩
     have hp := hp.turnsT 3 hk
     refine GL_nil ?_
     refine GW_seq ?_
     refine GW_region ?_
     refine GL_rd (v := .pointer (some ⟨_, _, none⟩)) (wn_none rfl) rfl (rd_move rfl rfl) ?_
     refine GL_call (wn_none rfl) rfl rfl (cl_All gk mk _ _ L _ (hp.get 5 rfl) (Sl.row (hp.get 6 rfl)) (hp.get 7 rfl) (by omega)) rfl ?_
     intro vb w hk
     have hp := hp.comp hk
     refine GL_rd (v := _) (wn_none rfl) rfl (rd_move rfl rfl) ?_
     refine GL_call (wn_none rfl) rfl rfl (ref_clSame _ _ _ _ L L _ (Sl.row (hp.get 0 rfl)) (hmv _ (hp.get 9 rfl)) rfl) rfl ?_
     rintro _ w ⟨rfl, hk⟩
     have hp := hp.comp hk
     refine GL_rd (v := .bool _) (wn_none rfl) rfl (rd_move rfl rfl) ?_
     refine GL_call (wn_on rfl rfl rfl rfl) rfl rfl (cl_works _) rfl ?_
     rintro _ w ⟨rfl, hk⟩
     have hp := hp.comp hk
     refine GL_rd (v := .bool _) (wn_none rfl) rfl (rd_pickT rfl rfl rfl) ?_
     refine GL_rd (v := .bool _) (wn_none rfl) rfl (rd_assign rfl rfl) ?_
     refine GL_nil ?_
     refine GW_ret ?_
     exact ⟨_, res1 Try.results10 (rv_tmp (v := .bool _) rfl rfl), rfl, hp.mods⟩
    ·skip
     refine GW_region ?_
     refine GL_rd (v := .pointer (some ⟨_, _, none⟩)) (wn_none rfl) rfl (rd_move rfl rfl) ?_
     refine GL_rd (v := .int _ _) (wn_none rfl) rfl (rd_move rfl rfl) ?_
     refine GL_call (wn_none rfl) rfl rfl (cl_Get gq mq _ _ L i _ (hp.get 4 rfl) (Sl.row (hp.get 5 rfl)) (hp.get 6 rfl)) rfl ?_
     rintro _ w ⟨rfl, hk⟩
     have hp := hp.comp hk
     rw [if_neg (show ¬ (0 ≤ i ∧ i < (L.length : Int)) by omega), decide_eq_false (show ¬ (0 ≤ i ∧ i < (L.length : Int)) by omega)]
     refine GL_rd (v := .tuple _) (wn_none rfl) rfl (rd_move rfl rfl) ?_
     refine GL_rd (v := .agg ⟨_⟩) (wn_none rfl) rfl (rd_extract rfl rfl rfl) ?_
     refine GL_rd (v := .bool _) (wn_none rfl) rfl (rd_extract rfl rfl rfl) ?_
     refine GL_alloc (wn_none rfl) rfl rfl tz97 rfl hp ?_
     intro g6 w hp
     refine GL_store (i := 0) (wn_none rfl) rfl rfl rfl rfl ts97 rfl rfl (clC_one _) hp rfl (by decide) rfl ?_
     intro w hp
     refine GL_rd (v := .bool _) (wn_none rfl) rfl (rd_assign rfl rfl) ?_
     refine GL_nil ?_
     refine GW_seq ?_
     refine GW_seq ?_
     refine GW_drawnK 60 (.one 0 true (.one 1 true (.one 2 true (.one 3 true (.one 5 true (.one 6 true (.one 4 false (.one 7 true (.one 8 true (.one 9 true (.one 10 true (.one 12 true (.one 11 false (.one 13 false (.one 14 true (.one 15 true (.one 16 true (.one 17 true (.one 18 true (.one 19 true (.one 20 true (.one 21 true (.one 22 true (.one 23 true (.one 24 true (.one 25 true (.one 26 true (.one 27 true (.one 28 true (.one 29 true (.one 30 true (.one 31 true (.one 32 true (.one 33 true (.one 34 true (.one 35 true (.one 36 true (.one 37 true (.one 38 true (.one 39 true (.one 40 true (.one 41 true (.one 42 true (.one 43 true (.one 44 true (.one 45 true (.one 46 true (.one 47 true (.one 48 true (.one 49 true (.one 50 true (.one 51 true (.one 52 true (.one 53 true (.one 54 true (.one 56 true (.one 55 false (.one 57 false (.one 58 true (.one 59 true .nil)))))))))))))))))))))))))))))))))))))))))))))))))))))))))))) mixed (by kernel_rfl) hp (fun _ h => (h.sub (.cons_cons _ (.cons _ (.cons _ (.cons _ (.cons_cons _ (.cons _ (.cons _ (.cons _ .slnil)))))))))) fun w hp => ?_
     have hpS31 := (hp.sub (.cons_cons _ (.cons _ (.cons _ (.cons _ (.cons_cons _ (.cons _ (.cons _ (.cons _ .slnil)))))))))
     refine GO_rdT (v := .pointer (some ⟨_, _, none⟩)) rfl (wn_none rfl) rfl (fun w => (rd_move rfl rfl)) ?_
     refine GO_rd rfl rfl (wn_none rfl) rfl hpS31 (fun w hp => (rd_bin rfl rfl rfl (bo_pnil Try.underlying89))) ?_
     refine GO_rdT (v := .bool _) rfl (wn_none rfl) rfl (fun w => (rd_move rfl rfl)) ?_
     refine GO_rdT (v := .pointer (some ⟨_, _, none⟩)) rfl (wn_on rfl rfl rfl rfl) rfl (fun w => (rd_move rfl rfl)) ?_
     refine GO_rdT (v := _) rfl (wn_on rfl rfl rfl rfl) rfl (fun w => (rd_move rfl rfl)) ?_
     refine GO_rd rfl rfl (wn_on rfl rfl rfl rfl) rfl hpS31 (fun w hp => (rd_len rfl rfl Try.underlying90)) ?_
     refine GO_of_GL rfl ?_
     refine GL_call (wn_on rfl rfl rfl rfl) rfl rfl (cl_Len gq mq _ _ L _ (hp.get 5 rfl) (Sl.row (hp.get 6 rfl)) (hp.get 7 rfl)) rfl ?_
     rintro _ w ⟨rfl, hk⟩
     have hp := hp.comp hk
     have hpS32 := (hp.sub (.cons_cons _ (.cons _ (.cons _ (.cons _ (.cons_cons _ (.cons _ (.cons _ (.cons _ .slnil)))))))))
     refine GL_nil ⟨fun _ => hpS32, ?_⟩
     refine GO_rd rfl rfl (wn_on rfl rfl rfl rfl) rfl hpS32 (fun w hp => (rd_bin rfl rfl rfl (bo_neqS rfl))) ?_
     refine GO_rdT (v := .bool _) rfl (wn_none rfl) rfl (fun w => (rd_pickF rfl rfl rfl)) ?_
     refine GO_rdT (v := .bool _) rfl (wn_none rfl) rfl (fun w => (rd_move rfl rfl)) ?_
     refine GO_rdT (v := .pointer (some ⟨_, _, none⟩)) rfl (wn_on rfl rfl rfl rfl) rfl (fun w => (rd_move rfl rfl)) ?_
     refine GO_rdT (v := _) rfl (wn_on rfl rfl rfl rfl) rfl (fun w => (rd_move rfl rfl)) ?_
     refine GO_of_GL rfl ?_
     refine GL_call (wn_on rfl rfl rfl rfl) rfl rfl (cl_All gq mq _ _ L _ (hp.get 5 rfl) (Sl.row (hp.get 6 rfl)) (hp.get 7 rfl) (by omega)) rfl ?_
     intro va w hk
     have hp := hp.comp hk
     have hpS33 := (hp.sub (.cons _ (.cons_cons _ (.cons _ (.cons _ (.cons _ (.cons_cons _ (.cons _ (.cons _ (.cons _ .slnil))))))))))
     refine GL_nil ⟨fun _ => hpS33, ?_⟩
     refine GO_of_GL rfl ?_
     refine GL_call (wn_on rfl rfl rfl rfl) rfl rfl (ref_clSame _ _ _ _ L L _ (Sl.row (hp.get 0 rfl)) (hmv _ (hp.get 5 rfl)) rfl) rfl ?_
     rintro _ w ⟨rfl, hk⟩
     have hp := hp.comp hk
     have hpS34 := (hp.sub (.cons _ (.cons_cons _ (.cons _ (.cons _ (.cons _ (.cons_cons _ (.cons _ (.cons _ (.cons _ .slnil))))))))))
     refine GL_nil ⟨fun _ => hpS34, ?_⟩
     refine GO_rd rfl rfl (wn_on rfl rfl rfl rfl) rfl hpS34 (fun w hp => (rd_not rfl rfl)) ?_
     refine GO_rdT (v := .bool _) rfl (wn_none rfl) rfl (fun w => (rd_pickF rfl rfl rfl)) ?_
     refine GO_rdT (v := .bool _) rfl (wn_none rfl) rfl (fun w => (rd_move rfl rfl)) ?_
     refine GO_rdT (v := .bool _) rfl (wn_on rfl rfl rfl rfl) rfl (fun w => (rd_move rfl rfl)) ?_
     refine GO_rdT (v := .int _ _) rfl (wn_on rfl rfl rfl rfl) rfl (fun w => (rd_move rfl rfl)) ?_
     refine GO_rd rfl rfl (wn_on rfl rfl rfl rfl) rfl hpS34 (fun w hp => (rd_bin rfl rfl rfl (bo_boolE (q := true) bo_geq (decide_eq_true (Int.natCast_nonneg _))))) ?_
     refine GO_rd rfl rfl (wn_on rfl rfl rfl rfl) rfl hpS34 (fun w hp => (rd_bin rfl rfl rfl (bo_boolE (bo_bneq Try.underlying4) rfl))) ?_
     refine GO_rdT (v := .bool _) rfl (wn_none rfl) rfl (fun w => (rd_pickF rfl rfl rfl)) ?_
     refine GO_rdT (v := .bool _) rfl (wn_none rfl) rfl (fun w => (rd_move rfl rfl)) ?_
     refine GO_rdT (v := .bool _) rfl (wn_on rfl rfl rfl rfl) rfl (fun w => (rd_move rfl rfl)) ?_
     refine GO_rdT (v := .bool _) rfl (wn_on rfl rfl rfl rfl) rfl (fun w => (rd_move rfl rfl)) ?_
     refine GO_rdT (v := .int _ _) rfl (wn_on rfl rfl rfl rfl) rfl (fun w => (rd_move rfl rfl)) ?_
     refine GO_rdT (v := .int _ _) rfl (wn_on rfl rfl rfl rfl) rfl (fun w => (rd_move rfl rfl)) ?_
     refine GO_rd rfl rfl (wn_on rfl rfl rfl rfl) rfl hpS34 (fun w hp => (rd_bin rfl rfl rfl (bo_neqS rfl))) ?_
     refine GO_rdT (v := .bool _) rfl (wn_on rfl rfl rfl rfl) rfl (fun w => (rd_pickT rfl rfl rfl)) ?_
     refine GO_rdT (v := .bool _) rfl (wn_none rfl) rfl (fun w => (rd_pickF rfl rfl rfl)) ?_
     refine GO_rdT (v := .bool _) rfl (wn_none rfl) rfl (fun w => (rd_move rfl rfl)) ?_
     refine GO_rdT (v := .bool _) rfl (wn_on rfl rfl rfl rfl) rfl (fun w => (rd_move rfl rfl)) ?_
     refine GO_rdT (v := .int _ _) rfl (wn_on rfl rfl rfl rfl) rfl (fun w => (rd_move rfl rfl)) ?_
     refine GO_rd rfl rfl (wn_on rfl rfl rfl rfl) rfl hpS34 (fun w hp => (rd_bin rfl rfl rfl (bo_boolE (q := true) bo_geq (decide_eq_true (by omega))))) ?_
     refine GO_rdT (v := .bool _) rfl (wn_on rfl rfl rfl rfl) rfl (fun w => (rd_move rfl rfl)) ?_
     refine GO_rdT (v := .int _ _) rfl (wn_on rfl rfl rfl rfl) rfl (fun w => (rd_move rfl rfl)) ?_
     refine GO_rdT (v := _) rfl (wn_on rfl rfl rfl rfl) rfl (fun w => (rd_move rfl rfl)) ?_
     refine GO_rd rfl rfl (wn_on rfl rfl rfl rfl) rfl hpS34 (fun w hp => (rd_len rfl rfl Try.underlying90)) ?_
     refine GO_rd rfl rfl (wn_on rfl rfl rfl rfl) rfl hpS34 (fun w hp => (rd_bin rfl rfl rfl (bo_boolE (q := false) bo_lss (decide_eq_false (by omega))))) ?_
     refine GO_rdT (v := .bool _) rfl (wn_on rfl rfl rfl rfl) rfl (fun w => (rd_pickT rfl rfl rfl)) ?_
     refine GO_rd rfl rfl (wn_on rfl rfl rfl rfl) rfl hpS34 (fun w hp => (rd_bin rfl rfl rfl (bo_boolE (bo_bneq Try.underlying4) rfl))) ?_
     refine GO_rdT (v := .bool _) rfl (wn_none rfl) rfl (fun w => (rd_pickF rfl rfl rfl)) ?_
     refine GO_rdT (v := .bool _) rfl (wn_none rfl) rfl (fun w => (rd_move rfl rfl)) ?_
     refine GO_rdT (v := .bool _) rfl (wn_on rfl rfl rfl rfl) rfl (fun w => (rd_move rfl rfl)) ?_
     refine GO_rdT (v := .bool _) rfl (wn_on rfl rfl rfl rfl) rfl (fun w => (rd_move rfl rfl)) ?_
     refine GO_pass rfl (nw_off rfl rfl rfl rfl rfl) rfl ?_
     refine GO_pass rfl (nw_off rfl rfl rfl rfl rfl) rfl ?_
     refine GO_pass rfl (nw_off rfl rfl rfl rfl rfl) rfl ?_
     refine GO_pass rfl (nw_off rfl rfl rfl rfl rfl) rfl ?_
     refine GO_pass rfl (nw_off rfl rfl rfl rfl rfl) rfl ?_
     refine GO_pass rfl (nw_off rfl rfl rfl rfl rfl) rfl ?_
     refine GO_rdT (v := .bool _) rfl (wn_on rfl rfl rfl rfl) rfl (fun w => (rd_pickF rfl rfl rfl)) ?_
     refine GO_rdT (v := .bool _) rfl (wn_none rfl) rfl (fun w => (rd_pickF rfl rfl rfl)) ?_
     refine GO_rdT (v := .bool _) rfl (wn_none rfl) rfl (fun w => (rd_move rfl rfl)) ?_
     refine GO_rdT (v := .string _) rfl (wn_on rfl rfl rfl rfl) rfl (fun w => (rd_move rfl rfl)) ?_
     refine GO_rdT (v := .string _) rfl (wn_on rfl rfl rfl rfl) rfl (fun w => (rd_move rfl rfl)) ?_
     refine GO_of_GL rfl ?_
     refine GL_call (wn_on rfl rfl rfl rfl) rfl rfl (cl_Name nm _ hnm) rfl ?_
     rintro _ w ⟨rfl, hk⟩
     have hp := hp.comp hk
     have hpS35 := (hp.sub (.cons _ (.cons_cons _ (.cons _ (.cons _ (.cons _ (.cons_cons _ (.cons _ (.cons _ (.cons _ .slnil))))))))))
     refine GL_nil ⟨fun _ => hpS35, ?_⟩
     refine GO_of_GL rfl ?_
     refine GL_call (wn_on rfl rfl rfl rfl) rfl rfl (ref_clName nm _ hnm) rfl ?_
     rintro _ w ⟨rfl, hk⟩
     have hp := hp.comp hk
     have hpS36 := (hp.sub (.cons _ (.cons_cons _ (.cons _ (.cons _ (.cons _ (.cons_cons _ (.cons _ (.cons _ (.cons _ .slnil))))))))))
     refine GL_nil ⟨fun _ => hpS36, ?_⟩
     refine GO_rd rfl rfl (wn_on rfl rfl rfl rfl) rfl hpS36 (fun w hp => (rd_bin rfl rfl rfl (bo_neqS rfl))) ?_
     refine GO_rdT (v := .bool _) rfl (wn_none rfl) rfl (fun w => (rd_pickF rfl rfl rfl)) ?_
     refine GO_nil ?_
     refine GW_false rfl ?_
     refine GW_skip ?_
     refine GW_seq ?_
     refine GW_region ?_
     refine GL_rd (v := .pointer (some ⟨_, _, none⟩)) (wn_none rfl) rfl (rd_move rfl rfl) ?_
     refine GL_rd (wn_none rfl) rfl (rd_buildS (L := clC ⟨⟨#[111, 110, 101, 45, 109, 111, 114, 101]⟩, 0, false, false⟩) rfl tz97 pl97 (by kernel_rfl)) ?_
     have hp := (((hp.front 8 rfl).front 8 rfl).front 8 rfl)
     refine GL_call (wn_none rfl) rfl rfl (cl_Add gq mq _ _ L _ ⟨⟨#[111, 110, 101, 45, 109, 111, 114, 101]⟩, 0, false, false⟩ _ (by omega) (by decide) (hp.ownsT 3)) rfl ?_
     rintro _ w ⟨rfl, sv5, hk⟩
     have hp := hp.turnsT 3 hk
     refine GL_nil ?_
     refine GW_seq ?_
     refine GW_region ?_
     refine GL_rd (v := .pointer (some ⟨_, _, none⟩)) (wn_none rfl) rfl (rd_move rfl rfl) ?_
     refine GL_rd (v := .string _) (wn_none rfl) rfl (rd_move rfl rfl) ?_
     have hp := (((hp.front 2 rfl).front 2 rfl).front 2 rfl)
     refine GL_call (wn_none rfl) rfl rfl (cl_Longer gq mq _ _ (claL L ⟨⟨#[111, 110, 101, 45, 109, 111, 114, 101]⟩, 0, false, false⟩) _ nm 1099511627776 _ (by have := (hok.add ⟨⟨#[111, 110, 101, 45, 109, 111, 114, 101]⟩, 0, false, false⟩).1; omega) (hp.ownsT 3)) rfl ?_
     rintro _ w ⟨rfl, sv6, hk⟩
     have hp := hp.turnsT 3 hk
     refine GL_nil ?_
     refine GW_seq ?_
     refine GW_region ?_
     refine GL_rd (v := .pointer (some ⟨_, _, none⟩)) (wn_none rfl) rfl (rd_move rfl rfl) ?_
     refine GL_call (wn_none rfl) rfl rfl (cl_All gk mk _ _ L _ (hp.get 5 rfl) (Sl.row (hp.get 6 rfl)) (hp.get 7 rfl) (by omega)) rfl ?_
     intro vb w hk
     have hp := hp.comp hk
     refine GL_rd (v := _) (wn_none rfl) rfl (rd_move rfl rfl) ?_
     refine GL_call (wn_none rfl) rfl rfl (ref_clSame _ _ _ _ L L _ (Sl.row (hp.get 0 rfl)) (hmv _ (hp.get 9 rfl)) rfl) rfl ?_
     rintro _ w ⟨rfl, hk⟩
     have hp := hp.comp hk
     refine GL_rd (v := .bool _) (wn_none rfl) rfl (rd_move rfl rfl) ?_
     refine GL_call (wn_on rfl rfl rfl rfl) rfl rfl (cl_works _) rfl ?_
     rintro _ w ⟨rfl, hk⟩
     have hp := hp.comp hk
     refine GL_rd (v := .bool _) (wn_none rfl) rfl (rd_pickT rfl rfl rfl) ?_
     refine GL_rd (v := .bool _) (wn_none rfl) rfl (rd_assign rfl rfl) ?_
     refine GL_nil ?_
     refine GW_ret ?_
     exact ⟨_, res1 Try.results10 (rv_tmp (v := .bool _) rfl rfl), rfl, hp.mods⟩

theorem law_ClassLonger (so1 : Value) (k1 : Nat) (l1 : List (Int × Cls)) (so2 : Value) (k2 : Nat) (l2 : List (Int × Cls)) (w0 : World) (hs1 : Sl w0 so1 5 k1 (l1.flatMap opC)) (hs2 : Sl w0 so2 5 k2 (l2.flatMap opC)) : Does Try.prog 11 #[so1, so2] w0 fun v w' => v = .bool true ∧ Hp w0 [] w' [] := by
 obtain ⟨A1, c01, rfl⟩ := sl_shape hs1
 have hlo1 := flat_len opC_len (by decide) hs1.len
 subst hlo1
 have hmle1 := hs1.le
 obtain ⟨A2, c02, rfl⟩ := sl_shape hs2
 have hlo2 := flat_len opC_len (by decide) hs2.len
 subst hlo2
 have hmle2 := hs2.le
 refine does_of (l := [.slice A1 l1.length c01, .slice A2 l2.length c02]) Try.func11 (by kernel_rfl) rfl Try.ntmps11 rfl rfl ?_
 have hp := Hp.refl w0 []
 refine GW_seq ?_
 refine GW_region ?_
 refine GL_rd (v := .bool _) (wn_none rfl) rfl (rd_assign rfl rfl) ?_
 refine GL_nil ?_
 refine GW_seq ?_
 refine GW_seq ?_
 refine GW_region ?_
 refine GL_rd (v := .slice _ _ _) (wn_none rfl) rfl (rd_move rfl rfl) ?_
 refine GL_call (wn_none rfl) rfl rfl (cl_light _ _ l1 _ (hs1.keep hp.mod)) rfl ?_
 rintro _ w ⟨rfl, hk⟩
 have hp := hp.comp hk
 refine GL_rd (wn_none rfl) rfl (rd_not rfl rfl) ?_
 refine GL_rd (v := .bool _) (wn_none rfl) rfl (rd_move rfl rfl) ?_
 refine GL_split (t := 15) (b := _) rfl ?_ ?_
 ·intro hb; (try simp only [decide_eq_true_eq, decide_eq_false_iff_not, Bool.not_eq_true', Bool.not_eq_false', Bool.not_eq_eq_eq_not, Bool.not_true, Bool.not_false, Int.not_lt, Int.not_le] at hb)
  refine GL_pass (nw_off rfl rfl rfl rfl rfl) rfl ?_
  refine GL_pass (nw_off rfl rfl rfl rfl rfl) rfl ?_
  refine GL_pass (nw_off rfl rfl rfl rfl rfl) rfl ?_
  refine GL_rd (v := .bool _) (wn_none rfl) rfl (rd_pickT rfl rfl rfl) ?_
  refine GL_nil ?_
  refine GW_true rfl ?_
  refine GW_seq ?_
  refine GW_region ?_
  refine GL_call (wn_none rfl) rfl rfl (cl_works _) rfl ?_
  rintro _ w ⟨rfl, hk⟩
  have hp := hp.comp hk
  refine GL_rd (v := .bool _) (wn_none rfl) rfl (rd_assign rfl rfl) ?_
  refine GL_nil ?_
  refine GW_ret ?_
  exact ⟨_, res1 Try.results11 (rv_tmp (v := .bool _) rfl rfl), rfl, hp.mods⟩
 ·intro hb; (try simp only [decide_eq_true_eq, decide_eq_false_iff_not, Bool.not_eq_true', Bool.not_eq_false', Bool.not_eq_eq_eq_not, Bool.not_true, Bool.not_false, Int.not_lt, Int.not_le] at hb)
  have hlit1 : lightB l1 = true := hb
  refine GL_rd (v := .slice _ _ _) (wn_on rfl rfl rfl rfl) rfl (rd_move rfl rfl) ?_
  refine GL_call (wn_on rfl rfl rfl rfl) rfl rfl (cl_light _ _ l2 _ (hs2.keep hp.mod)) rfl ?_
  rintro _ w ⟨rfl, hk⟩
  have hp := hp.comp hk
  refine GL_rd (wn_on rfl rfl rfl rfl) rfl (rd_not rfl rfl) ?_
  refine GL_rd (v := .bool _) (wn_none rfl) rfl (rd_pickF rfl rfl rfl) ?_
  refine GL_nil ?_
  refine GW_cond rfl (fun hb2 => ?_) (fun hb2 => ?_)
  ·(try simp only [decide_eq_true_eq, decide_eq_false_iff_not, Bool.not_eq_true', Bool.not_eq_false', Bool.not_eq_eq_eq_not, Bool.not_true, Bool.not_false, Int.not_lt, Int.not_le] at hb2)
   refine GW_seq ?_
   refine GW_region ?_
   refine GL_call (wn_none rfl) rfl rfl (cl_works _) rfl ?_
   rintro _ w ⟨rfl, hk⟩
   have hp := hp.comp hk
   refine GL_rd (v := .bool _) (wn_none rfl) rfl (rd_assign rfl rfl) ?_
   refine GL_nil ?_
   refine GW_ret ?_
   exact ⟨_, res1 Try.results11 (rv_tmp (v := .bool _) rfl rfl), rfl, hp.mods⟩
  ·(try simp only [decide_eq_true_eq, decide_eq_false_iff_not, Bool.not_eq_true', Bool.not_eq_false', Bool.not_eq_eq_eq_not, Bool.not_true, Bool.not_false, Int.not_lt, Int.not_le] at hb2)
   have hlit2 : lightB l2 = true := hb2
   have hlt := light_len hlit2
   refine GW_skip ?_
   refine GW_seq ?_
   refine GW_region ?_
   refine GL_rd (v := .slice _ _ _) (wn_none rfl) rfl (rd_move rfl rfl) ?_
   refine GL_call (wn_none rfl) rfl rfl (cl_made _ _ l1 _ (hs1.keep hp.mod) hlit1) rfl ?_
   rintro _ w ⟨gq, mq, sv2, mv, r, L, rfl, hok, hmv, hk⟩
   have hp := hp.comp hk
   obtain ⟨Am, cm, rfl⟩ := sl_shape (hmv _ (hp.get 0 rfl))
   have h8 := hok.1
   refine GL_rd (v := .tuple _) (wn_none rfl) rfl (rd_move rfl rfl) ?_
   refine GL_rd (v := .pointer (some ⟨_, _, none⟩)) (wn_none rfl) rfl (rd_extract rfl rfl rfl) ?_
   refine GL_rd (v := _) (wn_none rfl) rfl (rd_extract rfl rfl rfl) ?_
   refine GL_rd (v := .bool _) (wn_none rfl) rfl (rd_extract rfl rfl rfl) ?_
   refine GL_rd (v := .pointer (some ⟨_, _, none⟩)) (wn_none rfl) rfl (rd_assign rfl rfl) ?_
   refine GL_rd (v := _) (wn_none rfl) rfl (rd_assign rfl rfl) ?_
   refine GL_rd (v := .bool _) (wn_none rfl) rfl (rd_assign rfl rfl) ?_
   refine GL_nil ?_
   refine GW_seq ?_
   refine GW_seq ?_
   refine GW_region ?_
   refine GL_rd (v := .bool _) (wn_none rfl) rfl (rd_move rfl rfl) ?_
   refine GL_rd (wn_none rfl) rfl (rd_not rfl rfl) ?_
   refine GL_nil ?_
   refine GW_false rfl ?_
   refine GW_skip ?_
   refine GW_seq ?_
   refine GW_seq ?_
   refine GW_region ?_
   refine GL_rd (v := .int _ _) (wn_none rfl) rfl (rd_assign rfl rfl) ?_
   refine GL_nil ?_
   refine GW_block ?_
   refine GW_loop ?_
   refine Lp_ind (α := Nat × List Cls × Value) (fun a_0 f_0 w' => match a_0 with | (i, N, sv4) => ∃ fz, f_0 = (upd (upd (upd (upd fz 1 (.slice A2 l2.length c02)) 5 (.pointer (some ⟨gq, 0, none⟩))) 6 (.slice Am L.length cm)) 8 (.int .i64 (i : Int))) ∧ Hp w0 [] w' [r, cells gq 180 [sv4, .map (some mq)], .row 97 4 sv4 N.length (N.flatMap clC), .blk mq (.map ⟨mapE 0 N⟩ N.length)] ∧ (i ≤ l2.length) ∧ (ClsOk N) ∧ (Grow L N)) (fun a_0 => match a_0 with | (i, N, sv4) => l2.length - i) ?_ (0, L, sv2) _ _ ?_
   ·rintro ⟨i, N, sv4⟩ f wz ⟨fz, rfl, hp, hi0, hokN, hgrow⟩ ihL0
    refine Lp_round ?_
    refine GW_seq ?_
    refine GW_seq ?_
    refine GW_region ?_
    refine GL_rd (v := .int _ _) (wn_none rfl) rfl (rd_move rfl rfl) ?_
    refine GL_rd (v := .slice _ _ _) (wn_none rfl) rfl (rd_move rfl rfl) ?_
    refine GL_rd (wn_none rfl) rfl (rd_len rfl rfl Try.underlying87) ?_
    refine GL_rd (wn_none rfl) rfl (rd_bin rfl rfl rfl bo_lss) ?_
    refine GL_nil ?_
    refine GW_cond rfl (fun hb3 => ?_) (fun hb3 => ?_)
    ·(try simp only [decide_eq_true_eq, decide_eq_false_iff_not, Bool.not_eq_true', Bool.not_eq_false', Bool.not_eq_eq_eq_not, Bool.not_true, Bool.not_false, Int.not_lt, Int.not_le] at hb3)
     obtain ⟨gO2, bO2, rfl⟩ := hs2.addr (by rw [flat_length opC_len]; omega)
     have h8N := hokN.1
     refine GW_skip ?_
     refine GW_seq ?_
     refine GW_block ?_
     refine GW_seq ?_
     refine GW_region ?_
     refine GL_rd (v := .slice _ _ _) (wn_none rfl) rfl (rd_move rfl rfl) ?_
     refine GL_rd (v := .int _ _) (wn_none rfl) rfl (rd_move rfl rfl) ?_
     refine GL_rd (wn_none rfl) rfl (rd_indexS (j := i) rfl rfl rfl Try.underlying87 ts107 rfl (by omega) _ rfl) ?_
     refine GL_rd (wn_none rfl) rfl (rd_field rfl rfl fa107_0 _ rfl) ?_
     refine GL_rd (wn_none rfl) rfl (rd_load rfl rfl Try.underlying3 rfl ((hs2.keep hp.mod).get _ _ (op_cell (i := i) (j := 0) (by omega) rfl (by decide)))) ?_
     refine GL_rd (wn_none rfl) rfl (rd_bin rfl rfl rfl bo_eql) ?_
     refine GL_nil ?_
     refine GW_cond rfl (fun hb4 => ?_) (fun hb4 => ?_)
     ·(try simp only [decide_eq_true_eq, decide_eq_false_iff_not, Bool.not_eq_true', Bool.not_eq_false', Bool.not_eq_eq_eq_not, Bool.not_true, Bool.not_false, Int.not_lt, Int.not_le] at hb4)
      refine GW_drawnK 14 (.one 0 true (.one 1 true (.one 2 true (.one 3 true (.one 4 true (.one 5 true (.one 6 true (.one 7 true (.one 8 true (.one 9 true (.one 10 true (.one 11 true (.one 12 true (.one 13 false .nil)))))))))))))) mixed (by kernel_rfl) hp (fun _ h => h.mods) fun w hp => ?_
      have hpS := hp.mods
      refine GO_rdT (v := .pointer (some ⟨_, _, none⟩)) rfl (wn_none rfl) rfl (fun w => (rd_move rfl rfl)) ?_
      refine GO_rdT (v := .slice _ _ _) rfl (wn_none rfl) rfl (fun w => (rd_move rfl rfl)) ?_
      refine GO_rdT (v := .int _ _) rfl (wn_none rfl) rfl (fun w => (rd_move rfl rfl)) ?_
      refine GO_rdT rfl (wn_none rfl) rfl (fun w => (rd_indexS (j := i) rfl rfl rfl Try.underlying87 ts107 rfl (by omega) _ rfl)) ?_
      refine GO_rdT rfl (wn_none rfl) rfl (fun w => (rd_field rfl rfl fa107_1 _ rfl)) ?_
      refine GO_rdT rfl (wn_none rfl) rfl (fun w => (rd_field rfl rfl fa97_0 _ rfl)) ?_
      refine GO_rd rfl rfl (wn_none rfl) rfl hpS (fun w hp => (rd_load rfl rfl Try.underlying9 rfl ((hs2.keep hp.mod).get _ _ (op_cell (i := i) (j := 1) (by omega) rfl (by decide))))) ?_
      refine GO_rdT (v := .slice _ _ _) rfl (wn_none rfl) rfl (fun w => (rd_move rfl rfl)) ?_
      refine GO_rdT (v := .int _ _) rfl (wn_none rfl) rfl (fun w => (rd_move rfl rfl)) ?_
      refine GO_rdT rfl (wn_none rfl) rfl (fun w => (rd_indexS (j := i) rfl rfl rfl Try.underlying87 ts107 rfl (by omega) _ rfl)) ?_
      refine GO_rdT rfl (wn_none rfl) rfl (fun w => (rd_field rfl rfl fa107_1 _ rfl)) ?_
      refine GO_rdT rfl (wn_none rfl) rfl (fun w => (rd_field rfl rfl fa97_1 _ rfl)) ?_
      refine GO_rd rfl rfl (wn_none rfl) rfl hpS (fun w hp => (rd_load rfl rfl Try.underlying3 rfl ((hs2.keep hp.mod).get _ _ (op_cell (i := i) (j := 2) (by omega) rfl (by decide))))) ?_
      have hp := (((hp.front 3 rfl).front 3 rfl).front 3 rfl)
      refine GO_of_GL rfl ?_
      refine GL_call (wn_none rfl) rfl rfl (cl_Longer gq mq _ _ N _ (opAt l2 i).2.nm (opAt l2 i).2.pd _ (by omega) (hp.ownsT 3)) rfl ?_
      rintro _ w ⟨rfl, sv3, hk⟩
      have hp := hp.turnsT 3 hk
      have hpS2 := hp.mods
      refine GL_nil ⟨fun _ => hpS2, ?_⟩
      refine GO_nil ?_
      refine GW_region ?_
      refine GL_rd (v := .int _ _) (wn_none rfl) rfl (rd_move rfl rfl) ?_
      refine GL_rd (wn_none rfl) rfl (rd_bin rfl rfl rfl (bo_add64 (by omega))) ?_
      refine GL_rd (v := .int _ _) (wn_none rfl) rfl (rd_assign rfl rfl) ?_
      refine GL_nil ?_
      have hp := (((((hp.front 2 rfl).front 2 rfl).front 2 rfl).front 3 rfl).take 4)
      exact ihL0 (i + 1, lonL N (opAt l2 i).2.nm (opAt l2 i).2.pd, sv3) _ _ (by simp only []; omega) ⟨_, slots4 rfl rfl rfl rfl, hp, by omega, hokN.longer _ _, hgrow.longer _ _⟩
     ·(try simp only [decide_eq_true_eq, decide_eq_false_iff_not, Bool.not_eq_true', Bool.not_eq_false', Bool.not_eq_eq_eq_not, Bool.not_true, Bool.not_false, Int.not_lt, Int.not_le] at hb4)
      refine GW_region ?_
      refine GL_rd (v := .pointer (some ⟨_, _, none⟩)) (wn_none rfl) rfl (rd_move rfl rfl) ?_
      refine GL_rd (v := .slice _ _ _) (wn_none rfl) rfl (rd_move rfl rfl) ?_
      refine GL_rd (v := .int _ _) (wn_none rfl) rfl (rd_move rfl rfl) ?_
      refine GL_rd (wn_none rfl) rfl (rd_indexS (j := i) rfl rfl rfl Try.underlying87 ts107 rfl (by omega) _ rfl) ?_
      refine GL_rd (wn_none rfl) rfl (rd_field rfl rfl fa107_1 _ rfl) ?_
      refine GL_rd (wn_none rfl) rfl (rd_loadN (L := clC (opAt l2 i).2) rfl rfl Try.underlying97 rfl ts97 rfl (fun j u hj => op_sub (hs2.keep hp.mod) (by omega) j u hj)) ?_
      have hp := (((hp.front 3 rfl).front 3 rfl).front 3 rfl)
      refine GL_call (wn_none rfl) rfl rfl (cl_Add gq mq _ _ N _ (opAt l2 i).2 _ (by omega) (by have := hlt.2 i (by omega); omega) (hp.ownsT 3)) rfl ?_
      rintro _ w ⟨rfl, sv3, hk⟩
      have hp := hp.turnsT 3 hk
      refine GL_nil ?_
      refine GW_region ?_
      refine GL_rd (v := .int _ _) (wn_none rfl) rfl (rd_move rfl rfl) ?_
      refine GL_rd (wn_none rfl) rfl (rd_bin rfl rfl rfl (bo_add64 (by omega))) ?_
      refine GL_rd (v := .int _ _) (wn_none rfl) rfl (rd_assign rfl rfl) ?_
      refine GL_nil ?_
      have hp := (((((hp.front 2 rfl).front 2 rfl).front 2 rfl).front 3 rfl).take 4)
      exact ihL0 (i + 1, claL N (opAt l2 i).2, sv3) _ _ (by simp only []; omega) ⟨_, slots4 rfl rfl rfl rfl, hp, by omega, hokN.add _, hgrow.add _⟩
    ·(try simp only [decide_eq_true_eq, decide_eq_false_iff_not, Bool.not_eq_true', Bool.not_eq_false', Bool.not_eq_eq_eq_not, Bool.not_true, Bool.not_false, Int.not_lt, Int.not_le] at hb3)
     refine GW_exit ?_
     refine GW_seq ?_
     refine GW_seq ?_
     refine GW_region ?_
     refine GL_rd (v := .int _ _) (wn_none rfl) rfl (rd_assign rfl rfl) ?_
     refine GL_nil ?_
     refine GW_block ?_
     refine GW_loop ?_
     refine Lp_ind (α := Nat) (fun a_0 f_0 w' => match a_0 with | i => ∃ fz, f_0 = (upd (upd (upd fz 5 (.pointer (some ⟨gq, 0, none⟩))) 6 (.slice Am L.length cm)) 9 (.int .i64 (i : Int))) ∧ Hp w0 [] w' [r, cells gq 180 [sv4, .map (some mq)], .row 97 4 sv4 N.length (N.flatMap clC), .blk mq (.map ⟨mapE 0 N⟩ N.length)] ∧ (i ≤ L.length)) (fun a_0 => match a_0 with | i => L.length - i) ?_ 0 _ _ ?_
     ·rintro i f wz ⟨fz, rfl, hp, hi1⟩ ihL1
      refine Lp_round ?_
      refine GW_seq ?_
      refine GW_seq ?_
      refine GW_region ?_
      refine GL_rd (v := .int _ _) (wn_none rfl) rfl (rd_move rfl rfl) ?_
      refine GL_rd (v := .slice _ _ _) (wn_none rfl) rfl (rd_move rfl rfl) ?_
      refine GL_rd (wn_none rfl) rfl (rd_len rfl rfl Try.underlying90) ?_
      refine GL_rd (wn_none rfl) rfl (rd_bin rfl rfl rfl bo_lss) ?_
      refine GL_nil ?_
      refine GW_cond rfl (fun hb5 => ?_) (fun hb5 => ?_)
      ·(try simp only [decide_eq_true_eq, decide_eq_false_iff_not, Bool.not_eq_true', Bool.not_eq_false', Bool.not_eq_eq_eq_not, Bool.not_true, Bool.not_false, Int.not_lt, Int.not_le] at hb5)
       obtain ⟨hgn, hge, hgp, hgd⟩ := hgrow.2 i (by omega)
       have hgl := hgrow.1
       obtain ⟨gM, bM, rfl⟩ := (hmv _ (hp.get 0 rfl)).addr (by rw [flat_length clC_len]; omega)
       refine GW_skip ?_
       refine GW_seq ?_
       refine GW_block ?_
       refine GW_seq ?_
       refine GW_region ?_
       refine GL_rd (v := .pointer (some ⟨_, _, none⟩)) (wn_none rfl) rfl (rd_move rfl rfl) ?_
       refine GL_rd (v := .int _ _) (wn_none rfl) rfl (rd_move rfl rfl) ?_
       refine GL_call (wn_none rfl) rfl rfl (cl_Get gq mq _ _ N (i : Int) _ (hp.get 1 rfl) (Sl.row (hp.get 2 rfl)) (hp.get 3 rfl)) rfl ?_
       rintro _ w ⟨rfl, hk⟩
       have hp := hp.comp hk
       rw [if_pos (show 0 ≤ (i : Int) ∧ (i : Int) < (N.length : Int) by omega), decide_eq_true (show 0 ≤ (i : Int) ∧ (i : Int) < (N.length : Int) by omega), Int.toNat_natCast]
       refine GL_rd (v := .tuple _) (wn_none rfl) rfl (rd_move rfl rfl) ?_
       refine GL_rd (v := .agg ⟨_⟩) (wn_none rfl) rfl (rd_extract rfl rfl rfl) ?_
       refine GL_rd (v := .bool _) (wn_none rfl) rfl (rd_extract rfl rfl rfl) ?_
       refine GL_alloc (wn_none rfl) rfl rfl tz97 rfl hp ?_
       intro g w hp
       refine GL_store (i := 0) (wn_none rfl) rfl rfl rfl rfl ts97 rfl rfl (oneC rfl (oneC rfl (oneC rfl (oneC rfl one0)))) hp rfl (by first | exact Nat.le_of_ble_eq_true rfl | simp [bys_length, *]) rfl ?_
       intro w hp
       refine GL_rd (v := .bool _) (wn_none rfl) rfl (rd_assign rfl rfl) ?_
       refine GL_nil ?_
       refine GW_seq ?_
       refine GW_drawnK 42 (.one 0 true (.one 1 true (.one 2 true (.one 3 true (.one 4 true (.one 5 true (.one 6 true (.one 7 true (.one 8 true (.one 9 true (.one 10 true (.one 11 true (.one 12 true (.one 13 true (.one 14 true (.one 15 true (.one 16 true (.one 17 true (.one 18 true (.one 19 true (.one 20 true (.one 21 true (.one 22 true (.one 23 true (.one 24 true (.one 25 true (.one 26 true (.one 27 true (.one 28 true (.one 29 true (.one 30 true (.one 31 true (.one 32 true (.one 33 true (.one 34 true (.one 35 true (.one 36 true (.one 37 true (.one 38 true (.one 39 true (.one 40 true (.one 41 true .nil)))))))))))))))))))))))))))))))))))))))))) mixed (by kernel_rfl) hp (fun _ h => (h.sub (.cons_cons _ (.cons_cons _ (.cons _ (.cons _ (.cons _ .slnil))))))) fun w hp => ?_
       have hpS3 := (hp.sub (.cons_cons _ (.cons_cons _ (.cons _ (.cons _ (.cons _ .slnil))))))
       refine GO_rdT (v := .bool _) rfl (wn_none rfl) rfl (fun w => (rd_move rfl rfl)) ?_
       refine GO_rd rfl rfl (wn_none rfl) rfl hpS3 (fun w hp => (rd_not rfl rfl)) ?_
       refine GO_rdT (v := .bool _) rfl (wn_none rfl) rfl (fun w => (rd_move rfl rfl)) ?_
       refine GO_rdT rfl (wn_on rfl rfl rfl rfl) rfl (fun w => (rd_field rfl rfl fa97_0 _ rfl)) ?_
       refine GO_rd rfl rfl (wn_on rfl rfl rfl rfl) rfl hpS3 (fun w hp => (rd_load rfl rfl Try.underlying9 rfl ((cell_of_cells (hp.get 0 rfl) _).trans rfl))) ?_
       refine GO_rdT (v := .slice _ _ _) rfl (wn_on rfl rfl rfl rfl) rfl (fun w => (rd_move rfl rfl)) ?_
       refine GO_rdT (v := .int _ _) rfl (wn_on rfl rfl rfl rfl) rfl (fun w => (rd_move rfl rfl)) ?_
       refine GO_rdT rfl (wn_on rfl rfl rfl rfl) rfl (fun w => (rd_indexS (j := i) rfl rfl rfl Try.underlying90 ts97 rfl (by omega) _ rfl)) ?_
       refine GO_rdT rfl (wn_on rfl rfl rfl rfl) rfl (fun w => (rd_field rfl rfl fa97_0 _ rfl)) ?_
       refine GO_rd rfl rfl (wn_on rfl rfl rfl rfl) rfl hpS3 (fun w hp => (rd_load rfl rfl Try.underlying9 rfl ((hmv _ (hp.get 1 rfl)).get _ _ (cl_cell (i := i) (j := 0) (by omega) rfl (by decide))))) ?_
       refine GO_rd rfl rfl (wn_on rfl rfl rfl rfl) rfl hpS3 (fun w hp => (rd_bin rfl rfl rfl (bo_sneqS Try.underlying9 hgn))) ?_
       refine GO_rdT (v := .bool _) rfl (wn_none rfl) rfl (fun w => (rd_pickF rfl rfl rfl)) ?_
       refine GO_rdT (v := .bool _) rfl (wn_none rfl) rfl (fun w => (rd_move rfl rfl)) ?_
       refine GO_rdT rfl (wn_on rfl rfl rfl rfl) rfl (fun w => (rd_field rfl rfl fa97_2 _ rfl)) ?_
       refine GO_rd rfl rfl (wn_on rfl rfl rfl rfl) rfl hpS3 (fun w hp => (rd_load rfl rfl Try.underlying4 rfl ((cell_of_cells (hp.get 0 rfl) _).trans rfl))) ?_
       refine GO_rdT (v := .slice _ _ _) rfl (wn_on rfl rfl rfl rfl) rfl (fun w => (rd_move rfl rfl)) ?_
       refine GO_rdT (v := .int _ _) rfl (wn_on rfl rfl rfl rfl) rfl (fun w => (rd_move rfl rfl)) ?_
       refine GO_rdT rfl (wn_on rfl rfl rfl rfl) rfl (fun w => (rd_indexS (j := i) rfl rfl rfl Try.underlying90 ts97 rfl (by omega) _ rfl)) ?_
       refine GO_rdT rfl (wn_on rfl rfl rfl rfl) rfl (fun w => (rd_field rfl rfl fa97_2 _ rfl)) ?_
       refine GO_rd rfl rfl (wn_on rfl rfl rfl rfl) rfl hpS3 (fun w hp => (rd_load rfl rfl Try.underlying4 rfl ((hmv _ (hp.get 1 rfl)).get _ _ (cl_cell (i := i) (j := 2) (by omega) rfl (by decide))))) ?_
       refine GO_rd rfl rfl (wn_on rfl rfl rfl rfl) rfl hpS3 (fun w hp => (rd_bin rfl rfl rfl (bo_boolE (q := false) (bo_bneq Try.underlying4) (by rw [hge]; simp)))) ?_
       refine GO_rdT (v := .bool _) rfl (wn_none rfl) rfl (fun w => (rd_pickF rfl rfl rfl)) ?_
       refine GO_rdT (v := .bool _) rfl (wn_none rfl) rfl (fun w => (rd_move rfl rfl)) ?_
       refine GO_rdT rfl (wn_on rfl rfl rfl rfl) rfl (fun w => (rd_field rfl rfl fa97_3 _ rfl)) ?_
       refine GO_rd rfl rfl (wn_on rfl rfl rfl rfl) rfl hpS3 (fun w hp => (rd_load rfl rfl Try.underlying4 rfl ((cell_of_cells (hp.get 0 rfl) _).trans rfl))) ?_
       refine GO_rdT (v := .slice _ _ _) rfl (wn_on rfl rfl rfl rfl) rfl (fun w => (rd_move rfl rfl)) ?_
       refine GO_rdT (v := .int _ _) rfl (wn_on rfl rfl rfl rfl) rfl (fun w => (rd_move rfl rfl)) ?_
       refine GO_rdT rfl (wn_on rfl rfl rfl rfl) rfl (fun w => (rd_indexS (j := i) rfl rfl rfl Try.underlying90 ts97 rfl (by omega) _ rfl)) ?_
       refine GO_rdT rfl (wn_on rfl rfl rfl rfl) rfl (fun w => (rd_field rfl rfl fa97_3 _ rfl)) ?_
       refine GO_rd rfl rfl (wn_on rfl rfl rfl rfl) rfl hpS3 (fun w hp => (rd_load rfl rfl Try.underlying4 rfl ((hmv _ (hp.get 1 rfl)).get _ _ (cl_cell (i := i) (j := 3) (by omega) rfl (by decide))))) ?_
       refine GO_rd rfl rfl (wn_on rfl rfl rfl rfl) rfl hpS3 (fun w hp => (rd_bin rfl rfl rfl (bo_boolE (q := false) (bo_bneq Try.underlying4) (by rw [hgp]; simp)))) ?_
       refine GO_rdT (v := .bool _) rfl (wn_none rfl) rfl (fun w => (rd_pickF rfl rfl rfl)) ?_
       refine GO_rdT (v := .bool _) rfl (wn_none rfl) rfl (fun w => (rd_move rfl rfl)) ?_
       refine GO_rdT rfl (wn_on rfl rfl rfl rfl) rfl (fun w => (rd_field rfl rfl fa97_1 _ rfl)) ?_
       refine GO_rd rfl rfl (wn_on rfl rfl rfl rfl) rfl hpS3 (fun w hp => (rd_load rfl rfl Try.underlying3 rfl ((cell_of_cells (hp.get 0 rfl) _).trans rfl))) ?_
       refine GO_rdT (v := .slice _ _ _) rfl (wn_on rfl rfl rfl rfl) rfl (fun w => (rd_move rfl rfl)) ?_
       refine GO_rdT (v := .int _ _) rfl (wn_on rfl rfl rfl rfl) rfl (fun w => (rd_move rfl rfl)) ?_
       refine GO_rdT rfl (wn_on rfl rfl rfl rfl) rfl (fun w => (rd_indexS (j := i) rfl rfl rfl Try.underlying90 ts97 rfl (by omega) _ rfl)) ?_
       refine GO_rdT rfl (wn_on rfl rfl rfl rfl) rfl (fun w => (rd_field rfl rfl fa97_1 _ rfl)) ?_
       refine GO_rd rfl rfl (wn_on rfl rfl rfl rfl) rfl hpS3 (fun w hp => (rd_load rfl rfl Try.underlying3 rfl ((hmv _ (hp.get 1 rfl)).get _ _ (cl_cell (i := i) (j := 1) (by omega) rfl (by decide))))) ?_
       refine GO_rd rfl rfl (wn_on rfl rfl rfl rfl) rfl hpS3 (fun w hp => (rd_bin rfl rfl rfl (bo_boolE (q := false) bo_lss (decide_eq_false (by omega))))) ?_
       refine GO_rdT (v := .bool _) rfl (wn_none rfl) rfl (fun w => (rd_pickF rfl rfl rfl)) ?_
       refine GO_nil ?_
       refine GW_false rfl ?_
       refine GW_skip ?_
       refine GW_region ?_
       refine GL_rd (v := .int _ _) (wn_none rfl) rfl (rd_move rfl rfl) ?_
       refine GL_rd (wn_none rfl) rfl (rd_bin rfl rfl rfl (bo_add64 (by omega))) ?_
       refine GL_rd (v := .int _ _) (wn_none rfl) rfl (rd_assign rfl rfl) ?_
       refine GL_nil ?_
       have hp := (((((hp.front 4 rfl).front 4 rfl).front 4 rfl).front 4 rfl).take 4)
       exact ihL1 (i + 1) _ _ (by simp only []; omega) ⟨_, slots3 rfl rfl rfl, hp, by omega⟩
      ·(try simp only [decide_eq_true_eq, decide_eq_false_iff_not, Bool.not_eq_true', Bool.not_eq_false', Bool.not_eq_eq_eq_not, Bool.not_true, Bool.not_false, Int.not_lt, Int.not_le] at hb5)
       refine GW_exit ?_
       refine GW_seq ?_
       refine GW_region ?_
       refine GL_call (wn_none rfl) rfl rfl (cl_works _) rfl ?_
       rintro _ w ⟨rfl, hk⟩
       have hp := hp.comp hk
       refine GL_rd (v := .bool _) (wn_none rfl) rfl (rd_assign rfl rfl) ?_
       refine GL_nil ?_
       refine GW_ret ?_
       exact ⟨_, res1 Try.results11 (rv_tmp (v := .bool _) rfl rfl), rfl, hp.mods⟩
     ·refine ⟨_, slots3 rfl rfl rfl, hp, Nat.zero_le _⟩
   ·refine ⟨_, slots4 rfl rfl rfl rfl, hp, Nat.zero_le _, hok, Grow.refl L⟩

end Go.Proofs.Ytjbbknjhgdmdkaa
