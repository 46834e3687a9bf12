/- Walks of functions of the program. -/
import Derived.Test.YtpagpmioopaciaaQFTab
import Derived.Test.YtpagpmioopaciaaQMaskS
set_option linter.unusedVariables false
set_option linter.unusedSimpArgs false
namespace Go.Proofs.Ytpagpmioopaciaa
open Go.Mo Go.RowKit
theorem plan_Check (p : Pl) (w0 : World) : Does Try.prog 81 #[.agg ⟨plC p⟩] w0 fun v w' => v = .int .i64 (planC p) ∧ Hp w0 [] w' [] := by
 refine does_of (l := [.agg ⟨plC p⟩]) Try.func81 (by kernel_rfl) rfl Try.ntmps81 rfl rfl (by kernel_rfl) ?_
 have hp := Hp.refl w0 []
 refine GW_seq ?_
 refine GW_region ?_
 refine GL_box (wn_none rfl) rfl rfl rfl rfl hp ?_
 intro g w hp
 refine GL_rd (v := .int _ _) (wn_none rfl) rfl (rd_assign rfl rfl) ?_
 refine GL_nil ?_
 refine GW_seq ?_
 refine GW_seq ?_
 refine GW_region ?_
 refine GL_rd (wn_none rfl) rfl (rd_field rfl rfl fa23_0 _ rfl) ?_
 refine GL_rd (wn_none rfl) rfl (rd_load rfl rfl Try.underlying3 rfl ((cell_of_cells (hp.get 0 rfl) _).trans rfl)) ?_
 refine GL_rd (wn_none rfl) rfl (rd_buildA (L := [.int .i64 p.s, .int .i64 200]) rfl tz214 Try.underlying214 ts3 (by kernel_rfl)) ?_
 refine GL_rd (wn_none rfl) rfl (rd_field rfl rfl fa23_1 _ rfl) ?_
 refine GL_rd (wn_none rfl) rfl (rd_load rfl rfl Try.underlying3 rfl ((cell_of_cells (hp.get 0 rfl) _).trans rfl)) ?_
 refine GL_rd (wn_none rfl) rfl (rd_buildA (L := [.int .i64 p.t, .int .i64 40]) rfl tz214 Try.underlying214 ts3 (by kernel_rfl)) ?_
 refine GL_rd (wn_none rfl) rfl (rd_field rfl rfl fa23_2 _ rfl) ?_
 refine GL_rd (wn_none rfl) rfl (rd_load rfl rfl Try.underlying3 rfl ((cell_of_cells (hp.get 0 rfl) _).trans rfl)) ?_
 refine GL_rd (wn_none rfl) rfl (rd_buildA (L := [.int .i64 p.c, .int .i64 40]) rfl tz214 Try.underlying214 ts3 (by kernel_rfl)) ?_
 refine GL_rd (wn_none rfl) rfl (rd_field rfl rfl fa23_3 _ rfl) ?_
 refine GL_rd (wn_none rfl) rfl (rd_load rfl rfl Try.underlying3 rfl ((cell_of_cells (hp.get 0 rfl) _).trans rfl)) ?_
 refine GL_rd (wn_none rfl) rfl (rd_buildA (L := [.int .i64 p.a, .int .i64 80]) rfl tz214 Try.underlying214 ts3 (by kernel_rfl)) ?_
 refine GL_rd (wn_none rfl) rfl (rd_buildA (L := [.int .i64 p.s, .int .i64 200, .int .i64 p.t, .int .i64 40, .int .i64 p.c, .int .i64 40, .int .i64 p.a, .int .i64 80]) rfl tz215 Try.underlying215 ts214 (by kernel_rfl)) ?_
 refine GL_rd (v := .int _ _) (wn_none rfl) rfl (rd_move rfl rfl) ?_
 refine GL_nil ?_
 refine GW_block ?_
 refine GW_loop ?_
 refine Lp_ind (α := Nat) (fun a_0 f_0 w' => match a_0 with | i => ∃ fz, f_0 = (upd (upd fz 17 (.agg ⟨[.int .i64 p.s, .int .i64 200, .int .i64 p.t, .int .i64 40, .int .i64 p.c, .int .i64 40, .int .i64 p.a, .int .i64 80]⟩)) 18 (.int .i64 (i : Int))) ∧ Hp w0 [] w' [] ∧ (i ≤ 4) ∧ ((0 < i → 1 ≤ p.s ∧ p.s ≤ 200) ∧ (1 < i → 1 ≤ p.t ∧ p.t ≤ 40) ∧ (2 < i → 1 ≤ p.c ∧ p.c ≤ 40) ∧ (3 < i → 1 ≤ p.a ∧ p.a ≤ 80))) (fun a_0 => match a_0 with | i => 4 - i) ?_ 0 _ _ ?_
 ·rintro i f wz ⟨fz, rfl, hp, hi0, hall⟩ ihL0
  refine Lp_round ?_
  refine GW_seq ?_
  refine GW_region ?_
  refine GL_rd (wn_none rfl) rfl (rd_bin rfl rfl rfl bo_lss) ?_
  refine GL_nil ?_
  refine GW_seq ?_
  refine GW_cond rfl (fun hb => ?_) (fun hb => ?_)
  ·(try simp only [decide_eq_true_eq, decide_eq_false_iff_not, Bool.not_eq_true', Bool.not_eq_false', Bool.not_eq_eq_eq_not, Bool.not_true, Bool.not_false, Int.not_lt, Int.not_le] at hb)
   refine GW_skip ?_
   refine GW_seq ?_
   refine GW_block ?_
   refine GW_seq ?_
   rcases (show i = 0 ∨ i = 1 ∨ i = 2 ∨ i = 3 by omega) with rfl | rfl | rfl | rfl
   ·
    refine GW_region ?_
    refine GL_rd (wn_none rfl) rfl (rd_indexG (j := 0) (L' := [.int .i64 p.s, .int .i64 200]) rfl rfl rfl Try.underlying215 Try.underlying214 rfl ts214 rfl (by decide) rfl) ?_
    refine GL_alloc (wn_none rfl) rfl rfl tz214 rfl hp ?_
    intro g2 w hp
    refine GL_store (i := 0) (wn_none rfl) rfl rfl rfl rfl ts214 rfl rfl (oneC rfl (one1 rfl)) hp rfl (by first | exact Nat.le_of_ble_eq_true rfl | simp [bys_length, *]) (show splice _ _ _ = ([.int .i64 p.s, .int .i64 200] : List Value) from rfl) ?_
    intro w hp
    refine GL_nil ?_
    refine GW_seq ?_
    refine GW_region ?_
    refine GL_rd (wn_none rfl) rfl (rd_indexA (j := 0) rfl rfl rfl Try.underlying214 ts3 rfl (by omega) _ rfl) ?_
    refine GL_rd (wn_none rfl) rfl (rd_load rfl rfl Try.underlying3 rfl ((cell_of_cells (hp.get 0 rfl) _).trans rfl)) ?_
    refine GL_rd (wn_none rfl) rfl (rd_bin rfl rfl rfl bo_lss) ?_
    refine GL_rd (v := .bool _) (wn_none rfl) rfl (rd_move rfl rfl) ?_
    refine GL_split (t := 24) (b := _) rfl ?_ ?_
    ·intro hb2; (try simp only [decide_eq_true_eq, decide_eq_false_iff_not, Bool.not_eq_true', Bool.not_eq_false', Bool.not_eq_eq_eq_not, Bool.not_true, Bool.not_false, Int.not_lt, Int.not_le] at hb2)
     refine GL_pass (nw_off rfl rfl rfl rfl rfl) rfl ?_
     refine GL_pass (nw_off rfl rfl rfl rfl rfl) rfl ?_
     refine GL_pass (nw_off rfl rfl rfl rfl rfl) rfl ?_
     refine GL_pass (nw_off rfl rfl rfl rfl rfl) rfl ?_
     refine GL_pass (nw_off rfl rfl rfl rfl rfl) rfl ?_
     refine GL_rd (v := .bool _) (wn_none rfl) rfl (rd_pickT rfl rfl rfl) ?_
     refine GL_nil ?_
     refine GW_true rfl ?_
     refine GW_seq ?_
     refine GW_region ?_
     refine GL_rd (v := .int _ _) (wn_none rfl) rfl (rd_assign rfl rfl) ?_
     refine GL_nil ?_
     refine GW_ret ?_
     exact ⟨_, res1 Try.results81 (rv_tmp (v := .int _ _) rfl rfl), by rw [planC_no (by omega)], hp.mods⟩
    ·intro hb2; (try simp only [decide_eq_true_eq, decide_eq_false_iff_not, Bool.not_eq_true', Bool.not_eq_false', Bool.not_eq_eq_eq_not, Bool.not_true, Bool.not_false, Int.not_lt, Int.not_le] at hb2)
     have h1 := hb2
     refine GL_rd (wn_on rfl rfl rfl rfl) rfl (rd_indexA (j := 0) rfl rfl rfl Try.underlying214 ts3 rfl (by omega) _ rfl) ?_
     refine GL_rd (wn_on rfl rfl rfl rfl) rfl (rd_load rfl rfl Try.underlying3 rfl ((cell_of_cells (hp.get 0 rfl) _).trans rfl)) ?_
     refine GL_rd (wn_on rfl rfl rfl rfl) rfl (rd_indexA (j := 1) rfl rfl rfl Try.underlying214 ts3 rfl (by omega) _ rfl) ?_
     refine GL_rd (wn_on rfl rfl rfl rfl) rfl (rd_load rfl rfl Try.underlying3 rfl ((cell_of_cells (hp.get 0 rfl) _).trans rfl)) ?_
     refine GL_rd (wn_on rfl rfl rfl rfl) rfl (rd_bin rfl rfl rfl bo_gtr) ?_
     refine GL_rd (v := .bool _) (wn_none rfl) rfl (rd_pickF rfl rfl rfl) ?_
     refine GL_nil ?_
     refine GW_cond rfl (fun hb3 => ?_) (fun hb3 => ?_)
     ·(try simp only [decide_eq_true_eq, decide_eq_false_iff_not, Bool.not_eq_true', Bool.not_eq_false', Bool.not_eq_eq_eq_not, Bool.not_true, Bool.not_false, Int.not_lt, Int.not_le] at hb3)
      refine GW_seq ?_
      refine GW_region ?_
      refine GL_rd (v := .int _ _) (wn_none rfl) rfl (rd_assign rfl rfl) ?_
      refine GL_nil ?_
      refine GW_ret ?_
      exact ⟨_, res1 Try.results81 (rv_tmp (v := .int _ _) rfl rfl), by rw [planC_no (by omega)], hp.mods⟩
     ·(try simp only [decide_eq_true_eq, decide_eq_false_iff_not, Bool.not_eq_true', Bool.not_eq_false', Bool.not_eq_eq_eq_not, Bool.not_true, Bool.not_false, Int.not_lt, Int.not_le] at hb3)
      have h2 := hb3
      refine GW_skip ?_
      refine GW_region ?_
      refine GL_rd (wn_none rfl) rfl (rd_bin rfl rfl rfl (bo_add64 (by omega))) ?_
      refine GL_rd (v := .int _ _) (wn_none rfl) rfl (rd_move rfl rfl) ?_
      refine GL_nil ?_
      have hp := hp.mods
      exact ihL0 (1) _ _ (by simp only []; omega) ⟨_, slots2 rfl rfl, hp, by omega, ⟨by omega, by omega, by omega, by omega⟩⟩
   ·
    refine GW_region ?_
    refine GL_rd (wn_none rfl) rfl (rd_indexG (j := 1) (L' := [.int .i64 p.t, .int .i64 40]) rfl rfl rfl Try.underlying215 Try.underlying214 rfl ts214 rfl (by decide) rfl) ?_
    refine GL_alloc (wn_none rfl) rfl rfl tz214 rfl hp ?_
    intro g3 w hp
    refine GL_store (i := 0) (wn_none rfl) rfl rfl rfl rfl ts214 rfl rfl (oneC rfl (one1 rfl)) hp rfl (by first | exact Nat.le_of_ble_eq_true rfl | simp [bys_length, *]) (show splice _ _ _ = ([.int .i64 p.t, .int .i64 40] : List Value) from rfl) ?_
    intro w hp
    refine GL_nil ?_
    refine GW_seq ?_
    refine GW_region ?_
    refine GL_rd (wn_none rfl) rfl (rd_indexA (j := 0) rfl rfl rfl Try.underlying214 ts3 rfl (by omega) _ rfl) ?_
    refine GL_rd (wn_none rfl) rfl (rd_load rfl rfl Try.underlying3 rfl ((cell_of_cells (hp.get 0 rfl) _).trans rfl)) ?_
    refine GL_rd (wn_none rfl) rfl (rd_bin rfl rfl rfl bo_lss) ?_
    refine GL_rd (v := .bool _) (wn_none rfl) rfl (rd_move rfl rfl) ?_
    refine GL_split (t := 24) (b := _) rfl ?_ ?_
    ·intro hb4; (try simp only [decide_eq_true_eq, decide_eq_false_iff_not, Bool.not_eq_true', Bool.not_eq_false', Bool.not_eq_eq_eq_not, Bool.not_true, Bool.not_false, Int.not_lt, Int.not_le] at hb4)
     refine GL_pass (nw_off rfl rfl rfl rfl rfl) rfl ?_
     refine GL_pass (nw_off rfl rfl rfl rfl rfl) rfl ?_
     refine GL_pass (nw_off rfl rfl rfl rfl rfl) rfl ?_
     refine GL_pass (nw_off rfl rfl rfl rfl rfl) rfl ?_
     refine GL_pass (nw_off rfl rfl rfl rfl rfl) rfl ?_
     refine GL_rd (v := .bool _) (wn_none rfl) rfl (rd_pickT rfl rfl rfl) ?_
     refine GL_nil ?_
     refine GW_true rfl ?_
     refine GW_seq ?_
     refine GW_region ?_
     refine GL_rd (v := .int _ _) (wn_none rfl) rfl (rd_assign rfl rfl) ?_
     refine GL_nil ?_
     refine GW_ret ?_
     exact ⟨_, res1 Try.results81 (rv_tmp (v := .int _ _) rfl rfl), by rw [planC_no (by omega)], hp.mods⟩
    ·intro hb4; (try simp only [decide_eq_true_eq, decide_eq_false_iff_not, Bool.not_eq_true', Bool.not_eq_false', Bool.not_eq_eq_eq_not, Bool.not_true, Bool.not_false, Int.not_lt, Int.not_le] at hb4)
     have h1 := hb4
     refine GL_rd (wn_on rfl rfl rfl rfl) rfl (rd_indexA (j := 0) rfl rfl rfl Try.underlying214 ts3 rfl (by omega) _ rfl) ?_
     refine GL_rd (wn_on rfl rfl rfl rfl) rfl (rd_load rfl rfl Try.underlying3 rfl ((cell_of_cells (hp.get 0 rfl) _).trans rfl)) ?_
     refine GL_rd (wn_on rfl rfl rfl rfl) rfl (rd_indexA (j := 1) rfl rfl rfl Try.underlying214 ts3 rfl (by omega) _ rfl) ?_
     refine GL_rd (wn_on rfl rfl rfl rfl) rfl (rd_load rfl rfl Try.underlying3 rfl ((cell_of_cells (hp.get 0 rfl) _).trans rfl)) ?_
     refine GL_rd (wn_on rfl rfl rfl rfl) rfl (rd_bin rfl rfl rfl bo_gtr) ?_
     refine GL_rd (v := .bool _) (wn_none rfl) rfl (rd_pickF rfl rfl rfl) ?_
     refine GL_nil ?_
     refine GW_cond rfl (fun hb5 => ?_) (fun hb5 => ?_)
     ·(try simp only [decide_eq_true_eq, decide_eq_false_iff_not, Bool.not_eq_true', Bool.not_eq_false', Bool.not_eq_eq_eq_not, Bool.not_true, Bool.not_false, Int.not_lt, Int.not_le] at hb5)
      refine GW_seq ?_
      refine GW_region ?_
      refine GL_rd (v := .int _ _) (wn_none rfl) rfl (rd_assign rfl rfl) ?_
      refine GL_nil ?_
      refine GW_ret ?_
      exact ⟨_, res1 Try.results81 (rv_tmp (v := .int _ _) rfl rfl), by rw [planC_no (by omega)], hp.mods⟩
     ·(try simp only [decide_eq_true_eq, decide_eq_false_iff_not, Bool.not_eq_true', Bool.not_eq_false', Bool.not_eq_eq_eq_not, Bool.not_true, Bool.not_false, Int.not_lt, Int.not_le] at hb5)
      have h2 := hb5
      refine GW_skip ?_
      refine GW_region ?_
      refine GL_rd (wn_none rfl) rfl (rd_bin rfl rfl rfl (bo_add64 (by omega))) ?_
      refine GL_rd (v := .int _ _) (wn_none rfl) rfl (rd_move rfl rfl) ?_
      refine GL_nil ?_
      have hp := hp.mods
      exact ihL0 (2) _ _ (by simp only []; omega) ⟨_, slots2 rfl rfl, hp, by omega, ⟨by omega, by omega, by omega, by omega⟩⟩
   ·
    refine GW_region ?_
    refine GL_rd (wn_none rfl) rfl (rd_indexG (j := 2) (L' := [.int .i64 p.c, .int .i64 40]) rfl rfl rfl Try.underlying215 Try.underlying214 rfl ts214 rfl (by decide) rfl) ?_
    refine GL_alloc (wn_none rfl) rfl rfl tz214 rfl hp ?_
    intro g4 w hp
    refine GL_store (i := 0) (wn_none rfl) rfl rfl rfl rfl ts214 rfl rfl (oneC rfl (one1 rfl)) hp rfl (by first | exact Nat.le_of_ble_eq_true rfl | simp [bys_length, *]) (show splice _ _ _ = ([.int .i64 p.c, .int .i64 40] : List Value) from rfl) ?_
    intro w hp
    refine GL_nil ?_
    refine GW_seq ?_
    refine GW_region ?_
    refine GL_rd (wn_none rfl) rfl (rd_indexA (j := 0) rfl rfl rfl Try.underlying214 ts3 rfl (by omega) _ rfl) ?_
    refine GL_rd (wn_none rfl) rfl (rd_load rfl rfl Try.underlying3 rfl ((cell_of_cells (hp.get 0 rfl) _).trans rfl)) ?_
    refine GL_rd (wn_none rfl) rfl (rd_bin rfl rfl rfl bo_lss) ?_
    refine GL_rd (v := .bool _) (wn_none rfl) rfl (rd_move rfl rfl) ?_
    refine GL_split (t := 24) (b := _) rfl ?_ ?_
    ·intro hb6; (try simp only [decide_eq_true_eq, decide_eq_false_iff_not, Bool.not_eq_true', Bool.not_eq_false', Bool.not_eq_eq_eq_not, Bool.not_true, Bool.not_false, Int.not_lt, Int.not_le] at hb6)
     refine GL_pass (nw_off rfl rfl rfl rfl rfl) rfl ?_
     refine GL_pass (nw_off rfl rfl rfl rfl rfl) rfl ?_
     refine GL_pass (nw_off rfl rfl rfl rfl rfl) rfl ?_
     refine GL_pass (nw_off rfl rfl rfl rfl rfl) rfl ?_
     refine GL_pass (nw_off rfl rfl rfl rfl rfl) rfl ?_
     refine GL_rd (v := .bool _) (wn_none rfl) rfl (rd_pickT rfl rfl rfl) ?_
     refine GL_nil ?_
     refine GW_true rfl ?_
     refine GW_seq ?_
     refine GW_region ?_
     refine GL_rd (v := .int _ _) (wn_none rfl) rfl (rd_assign rfl rfl) ?_
     refine GL_nil ?_
     refine GW_ret ?_
     exact ⟨_, res1 Try.results81 (rv_tmp (v := .int _ _) rfl rfl), by rw [planC_no (by omega)], hp.mods⟩
    ·intro hb6; (try simp only [decide_eq_true_eq, decide_eq_false_iff_not, Bool.not_eq_true', Bool.not_eq_false', Bool.not_eq_eq_eq_not, Bool.not_true, Bool.not_false, Int.not_lt, Int.not_le] at hb6)
     have h1 := hb6
     refine GL_rd (wn_on rfl rfl rfl rfl) rfl (rd_indexA (j := 0) rfl rfl rfl Try.underlying214 ts3 rfl (by omega) _ rfl) ?_
     refine GL_rd (wn_on rfl rfl rfl rfl) rfl (rd_load rfl rfl Try.underlying3 rfl ((cell_of_cells (hp.get 0 rfl) _).trans rfl)) ?_
     refine GL_rd (wn_on rfl rfl rfl rfl) rfl (rd_indexA (j := 1) rfl rfl rfl Try.underlying214 ts3 rfl (by omega) _ rfl) ?_
     refine GL_rd (wn_on rfl rfl rfl rfl) rfl (rd_load rfl rfl Try.underlying3 rfl ((cell_of_cells (hp.get 0 rfl) _).trans rfl)) ?_
     refine GL_rd (wn_on rfl rfl rfl rfl) rfl (rd_bin rfl rfl rfl bo_gtr) ?_
     refine GL_rd (v := .bool _) (wn_none rfl) rfl (rd_pickF rfl rfl rfl) ?_
     refine GL_nil ?_
     refine GW_cond rfl (fun hb7 => ?_) (fun hb7 => ?_)
     ·(try simp only [decide_eq_true_eq, decide_eq_false_iff_not, Bool.not_eq_true', Bool.not_eq_false', Bool.not_eq_eq_eq_not, Bool.not_true, Bool.not_false, Int.not_lt, Int.not_le] at hb7)
      refine GW_seq ?_
      refine GW_region ?_
      refine GL_rd (v := .int _ _) (wn_none rfl) rfl (rd_assign rfl rfl) ?_
      refine GL_nil ?_
      refine GW_ret ?_
      exact ⟨_, res1 Try.results81 (rv_tmp (v := .int _ _) rfl rfl), by rw [planC_no (by omega)], hp.mods⟩
     ·(try simp only [decide_eq_true_eq, decide_eq_false_iff_not, Bool.not_eq_true', Bool.not_eq_false', Bool.not_eq_eq_eq_not, Bool.not_true, Bool.not_false, Int.not_lt, Int.not_le] at hb7)
      have h2 := hb7
      refine GW_skip ?_
      refine GW_region ?_
      refine GL_rd (wn_none rfl) rfl (rd_bin rfl rfl rfl (bo_add64 (by omega))) ?_
      refine GL_rd (v := .int _ _) (wn_none rfl) rfl (rd_move rfl rfl) ?_
      refine GL_nil ?_
      have hp := hp.mods
      exact ihL0 (3) _ _ (by simp only []; omega) ⟨_, slots2 rfl rfl, hp, by omega, ⟨by omega, by omega, by omega, by omega⟩⟩
   ·
    refine GW_region ?_
    refine GL_rd (wn_none rfl) rfl (rd_indexG (j := 3) (L' := [.int .i64 p.a, .int .i64 80]) rfl rfl rfl Try.underlying215 Try.underlying214 rfl ts214 rfl (by decide) rfl) ?_
    refine GL_alloc (wn_none rfl) rfl rfl tz214 rfl hp ?_
    intro g5 w hp
    refine GL_store (i := 0) (wn_none rfl) rfl rfl rfl rfl ts214 rfl rfl (oneC rfl (one1 rfl)) hp rfl (by first | exact Nat.le_of_ble_eq_true rfl | simp [bys_length, *]) (show splice _ _ _ = ([.int .i64 p.a, .int .i64 80] : List Value) from rfl) ?_
    intro w hp
    refine GL_nil ?_
    refine GW_seq ?_
    refine GW_region ?_
    refine GL_rd (wn_none rfl) rfl (rd_indexA (j := 0) rfl rfl rfl Try.underlying214 ts3 rfl (by omega) _ rfl) ?_
    refine GL_rd (wn_none rfl) rfl (rd_load rfl rfl Try.underlying3 rfl ((cell_of_cells (hp.get 0 rfl) _).trans rfl)) ?_
    refine GL_rd (wn_none rfl) rfl (rd_bin rfl rfl rfl bo_lss) ?_
    refine GL_rd (v := .bool _) (wn_none rfl) rfl (rd_move rfl rfl) ?_
    refine GL_split (t := 24) (b := _) rfl ?_ ?_
    ·intro hb8; (try simp only [decide_eq_true_eq, decide_eq_false_iff_not, Bool.not_eq_true', Bool.not_eq_false', Bool.not_eq_eq_eq_not, Bool.not_true, Bool.not_false, Int.not_lt, Int.not_le] at hb8)
     refine GL_pass (nw_off rfl rfl rfl rfl rfl) rfl ?_
     refine GL_pass (nw_off rfl rfl rfl rfl rfl) rfl ?_
     refine GL_pass (nw_off rfl rfl rfl rfl rfl) rfl ?_
     refine GL_pass (nw_off rfl rfl rfl rfl rfl) rfl ?_
     refine GL_pass (nw_off rfl rfl rfl rfl rfl) rfl ?_
     refine GL_rd (v := .bool _) (wn_none rfl) rfl (rd_pickT rfl rfl rfl) ?_
     refine GL_nil ?_
     refine GW_true rfl ?_
     refine GW_seq ?_
     refine GW_region ?_
     refine GL_rd (v := .int _ _) (wn_none rfl) rfl (rd_assign rfl rfl) ?_
     refine GL_nil ?_
     refine GW_ret ?_
     exact ⟨_, res1 Try.results81 (rv_tmp (v := .int _ _) rfl rfl), by rw [planC_no (by omega)], hp.mods⟩
    ·intro hb8; (try simp only [decide_eq_true_eq, decide_eq_false_iff_not, Bool.not_eq_true', Bool.not_eq_false', Bool.not_eq_eq_eq_not, Bool.not_true, Bool.not_false, Int.not_lt, Int.not_le] at hb8)
     have h1 := hb8
     refine GL_rd (wn_on rfl rfl rfl rfl) rfl (rd_indexA (j := 0) rfl rfl rfl Try.underlying214 ts3 rfl (by omega) _ rfl) ?_
     refine GL_rd (wn_on rfl rfl rfl rfl) rfl (rd_load rfl rfl Try.underlying3 rfl ((cell_of_cells (hp.get 0 rfl) _).trans rfl)) ?_
     refine GL_rd (wn_on rfl rfl rfl rfl) rfl (rd_indexA (j := 1) rfl rfl rfl Try.underlying214 ts3 rfl (by omega) _ rfl) ?_
     refine GL_rd (wn_on rfl rfl rfl rfl) rfl (rd_load rfl rfl Try.underlying3 rfl ((cell_of_cells (hp.get 0 rfl) _).trans rfl)) ?_
     refine GL_rd (wn_on rfl rfl rfl rfl) rfl (rd_bin rfl rfl rfl bo_gtr) ?_
     refine GL_rd (v := .bool _) (wn_none rfl) rfl (rd_pickF rfl rfl rfl) ?_
     refine GL_nil ?_
     refine GW_cond rfl (fun hb9 => ?_) (fun hb9 => ?_)
     ·(try simp only [decide_eq_true_eq, decide_eq_false_iff_not, Bool.not_eq_true', Bool.not_eq_false', Bool.not_eq_eq_eq_not, Bool.not_true, Bool.not_false, Int.not_lt, Int.not_le] at hb9)
      refine GW_seq ?_
      refine GW_region ?_
      refine GL_rd (v := .int _ _) (wn_none rfl) rfl (rd_assign rfl rfl) ?_
      refine GL_nil ?_
      refine GW_ret ?_
      exact ⟨_, res1 Try.results81 (rv_tmp (v := .int _ _) rfl rfl), by rw [planC_no (by omega)], hp.mods⟩
     ·(try simp only [decide_eq_true_eq, decide_eq_false_iff_not, Bool.not_eq_true', Bool.not_eq_false', Bool.not_eq_eq_eq_not, Bool.not_true, Bool.not_false, Int.not_lt, Int.not_le] at hb9)
      have h2 := hb9
      refine GW_skip ?_
      refine GW_region ?_
      refine GL_rd (wn_none rfl) rfl (rd_bin rfl rfl rfl (bo_add64 (by omega))) ?_
      refine GL_rd (v := .int _ _) (wn_none rfl) rfl (rd_move rfl rfl) ?_
      refine GL_nil ?_
      have hp := hp.mods
      exact ihL0 (4) _ _ (by simp only []; omega) ⟨_, slots2 rfl rfl, hp, by omega, ⟨by omega, by omega, by omega, by omega⟩⟩
  ·(try simp only [decide_eq_true_eq, decide_eq_false_iff_not, Bool.not_eq_true', Bool.not_eq_false', Bool.not_eq_eq_eq_not, Bool.not_true, Bool.not_false, Int.not_lt, Int.not_le] at hb)
   obtain rfl : i = 4 := by omega
   refine GW_exit ?_
   refine GW_seq ?_
   refine GW_region ?_
   refine GL_rd (v := .int _ _) (wn_none rfl) rfl (rd_assign rfl rfl) ?_
   refine GL_nil ?_
   refine GW_ret ?_
   exact ⟨_, res1 Try.results81 (rv_tmp (v := .int _ _) rfl rfl), by rw [planC_yes ⟨hall.1 (by decide), hall.2.1 (by decide), hall.2.2.1 (by decide), hall.2.2.2 (by decide)⟩], hp⟩
 ·have hp := hp.mods
  refine ⟨_, slots2 rfl rfl, hp, by decide, ⟨by omega, by omega, by omega, by omega⟩⟩
theorem plan_Of (p : Pl) (w0 : World) : Does Try.prog 45 #[.agg ⟨plC p⟩] w0 fun v w' => v = .tuple #[.agg ⟨layV p⟩, .int .i64 (planC p)] ∧ Hp w0 [] w' [] := by
 refine does_of (l := [.agg ⟨plC p⟩]) Try.func45 (by kernel_rfl) rfl Try.ntmps45 rfl rfl (by kernel_rfl) ?_
 have hp := Hp.refl w0 []
 refine GW_seq ?_
 refine GW_region ?_
 refine GL_box (wn_none rfl) rfl rfl rfl rfl hp ?_
 intro g w hp
 refine GL_alloc (wn_none rfl) rfl rfl tz101 rfl hp ?_
 intro g2 w hp
 refine GL_rd (v := .int _ _) (wn_none rfl) rfl (rd_assign rfl rfl) ?_
 refine GL_nil ?_
 refine GW_seq ?_
 refine GW_seq ?_
 refine GW_region ?_
 refine GL_rd (wn_none rfl) rfl (rd_loadC rfl rfl Try.underlying23 rfl ts23 (hp.get 1 rfl) (by first | rfl | simp [bys_length, *])) ?_
 refine GL_call (wn_none rfl) rfl rfl (plan_Check p _) rfl ?_
 rintro _ w ⟨rfl, hk⟩
 have hp := hp.comp hk
 refine GL_rd (v := .int _ _) (wn_none rfl) rfl (rd_assign rfl rfl) ?_
 refine GL_nil ?_
 refine GW_seq ?_
 refine GW_region ?_
 refine GL_rd (v := .int _ _) (wn_none rfl) rfl (rd_move rfl rfl) ?_
 refine GL_rd (wn_none rfl) rfl (rd_bin rfl rfl rfl bo_neq) ?_
 refine GL_nil ?_
 refine GW_cond rfl (fun hb => ?_) (fun hb => ?_)
 ·(try simp only [decide_eq_true_eq, decide_eq_false_iff_not, Bool.not_eq_true', Bool.not_eq_false', Bool.not_eq_eq_eq_not, Bool.not_true, Bool.not_false, Int.not_lt, Int.not_le] at hb)
  have hc : planC p = 2 := by have := hb; revert this; unfold planC; cases planB p <;> simp
  refine GW_seq ?_
  refine GW_region ?_
  refine GL_rd (wn_none rfl) rfl (rd_buildS (L := layZ) rfl tz101 pl101 (by kernel_rfl)) ?_
  refine GL_rd (v := .int _ _) (wn_none rfl) rfl (rd_move rfl rfl) ?_
  refine GL_store (i := 0) (wn_none rfl) rfl rfl rfl rfl ts101 rfl rfl (oneC rfl (oneC rfl (oneC rfl (oneC rfl (oneC rfl (oneC rfl (oneC rfl (oneC rfl (oneC rfl (oneC rfl (oneC rfl (oneC rfl (oneC rfl (oneC rfl one0)))))))))))))) hp rfl (by first | exact Nat.le_of_ble_eq_true rfl | simp [bys_length, *]) (show splice _ _ _ = (layZ : List Value) from rfl) ?_
  intro w hp
  refine GL_rd (v := .int _ _) (wn_none rfl) rfl (rd_assign rfl rfl) ?_
  refine GL_nil ?_
  refine GW_ret ?_
  exact ⟨_, res2 Try.results45 (rv_cell rfl rfl Try.underlying101 rfl ts101 rfl (hp.get 0 rfl)) (rv_tmp (v := .int _ _) rfl rfl), by rw [hc, layV_no hc], hp.mods⟩
 ·(try simp only [decide_eq_true_eq, decide_eq_false_iff_not, Bool.not_eq_true', Bool.not_eq_false', Bool.not_eq_eq_eq_not, Bool.not_true, Bool.not_false, Int.not_lt, Int.not_le] at hb)
  have hc : planC p = 0 := hb
  have hb0 := planC_iff.1 hc
  have hb1 := planB_iff.1 hb0
  have hb2 := pl_bounds hb0
  have e5 : plTx p = 5 + plN p := rfl
  have e4 : plCl p = plTx p + p.t := rfl
  have e3 : plAu p = plCl p + p.c := rfl
  have e2 : plHd p = plAu p + p.a := rfl
  have e1 : plBo p = plHd p + 1 := rfl
  have e7 : plRm p = plN p + 9 + p.t := rfl
  have e0 : plSl p = plBo p + plRm p := rfl
  have e6 : plTo p = plSl p + p.s := rfl
  refine GW_skip ?_
  refine GW_seq ?_
  refine GW_region ?_
  refine GL_rd (wn_none rfl) rfl (rd_field rfl rfl fa23_0 _ rfl) ?_
  refine GL_rd (wn_none rfl) rfl (rd_load rfl rfl Try.underlying3 rfl ((cell_of_cells (hp.get 1 rfl) _).trans rfl)) ?_
  refine GL_rd (wn_none rfl) rfl (rd_bin rfl rfl rfl (bo_mul64 (by omega))) ?_
  refine GL_rd (wn_none rfl) rfl (rd_bin rfl rfl rfl (bo_add64 (by omega))) ?_
  refine GL_rd (wn_none rfl) rfl (rd_bin rfl rfl rfl (bo_sub64 (by omega))) ?_
  refine GL_rd (wn_none rfl) rfl (rd_bin rfl rfl rfl (bo_int (q := plN p) (bo_quo64 (by omega) (by omega) (by omega)) rfl)) ?_
  refine GL_rd (v := .int _ _) (wn_none rfl) rfl (rd_assign rfl rfl) ?_
  refine GL_nil ?_
  refine GW_seq ?_
  refine GW_region ?_
  refine GL_rd (wn_none rfl) rfl (rd_loadC rfl rfl Try.underlying23 rfl ts23 (hp.get 1 rfl) (by first | rfl | simp [bys_length, *])) ?_
  refine GL_rd (v := .int _ _) (wn_none rfl) rfl (rd_move rfl rfl) ?_
  refine GL_rd (wn_none rfl) rfl (rd_bin rfl rfl rfl (bo_mul64 (by omega))) ?_
  refine GL_rd (v := .int _ _) (wn_none rfl) rfl (rd_move rfl rfl) ?_
  refine GL_rd (wn_none rfl) rfl (rd_bin rfl rfl rfl (bo_add64 (by omega))) ?_
  refine GL_rd (wn_none rfl) rfl (rd_field rfl rfl fa23_1 _ rfl) ?_
  refine GL_rd (wn_none rfl) rfl (rd_load rfl rfl Try.underlying3 rfl ((cell_of_cells (hp.get 1 rfl) _).trans rfl)) ?_
  refine GL_rd (wn_none rfl) rfl (rd_bin rfl rfl rfl (bo_add64 (by omega))) ?_
  refine GL_rd (wn_none rfl) rfl (rd_buildS (L := [.int .i64 p.s, .int .i64 p.t, .int .i64 p.c, .int .i64 p.a, .int .i64 5, .int .i64 0, .int .i64 0, .int .i64 0, .int .i64 0, .int .i64 0, .int .i64 0, .int .i64 0, .int .i64 (plEn p), .int .i64 (plRm p)]) rfl tz101 pl101 (by kernel_rfl)) ?_
  refine GL_alloc (wn_none rfl) rfl rfl tz101 rfl hp ?_
  intro g3 w hp
  refine GL_store (i := 0) (wn_none rfl) rfl rfl rfl rfl ts101 rfl rfl (oneC rfl (oneC rfl (oneC rfl (oneC rfl (oneC rfl (oneC rfl (oneC rfl (oneC rfl (oneC rfl (oneC rfl (oneC rfl (oneC rfl (oneC rfl (oneC rfl one0)))))))))))))) hp rfl (by first | exact Nat.le_of_ble_eq_true rfl | simp [bys_length, *]) (show splice _ _ _ = ([.int .i64 p.s, .int .i64 p.t, .int .i64 p.c, .int .i64 p.a, .int .i64 5, .int .i64 0, .int .i64 0, .int .i64 0, .int .i64 0, .int .i64 0, .int .i64 0, .int .i64 0, .int .i64 (plEn p), .int .i64 (plRm p)] : List Value) from rfl) ?_
  intro w hp
  refine GL_nil ?_
  refine GW_seq ?_
  refine GW_region ?_
  refine GL_rd (wn_none rfl) rfl (rd_field rfl rfl fa101_1 _ rfl) ?_
  refine GL_rd (wn_none rfl) rfl (rd_load rfl rfl Try.underlying3 rfl ((cell_of_cells (hp.get 0 rfl) _).trans rfl)) ?_
  refine GL_rd (v := .int _ _) (wn_none rfl) rfl (rd_move rfl rfl) ?_
  refine GL_rd (wn_none rfl) rfl (rd_bin rfl rfl rfl (bo_int (q := plTx p) (bo_add64 (by omega)) rfl)) ?_
  refine GL_rd (wn_none rfl) rfl (rd_field rfl rfl fa101_2 _ rfl) ?_
  refine GL_store (i := 0) (wn_none rfl) rfl rfl rfl rfl ts3 rfl rfl (one1 rfl) hp rfl (by first | exact Nat.le_of_ble_eq_true rfl | simp [bys_length, *]) (show splice _ _ _ = ([.int .i64 p.s, .int .i64 p.t, .int .i64 p.c, .int .i64 p.a, .int .i64 5, .int .i64 (plTx p), .int .i64 0, .int .i64 0, .int .i64 0, .int .i64 0, .int .i64 0, .int .i64 0, .int .i64 (plEn p), .int .i64 (plRm p)] : List Value) from rfl) ?_
  intro w hp
  refine GL_nil ?_
  refine GW_seq ?_
  refine GW_region ?_
  refine GL_rd (wn_none rfl) rfl (rd_field rfl rfl fa101_2 _ rfl) ?_
  refine GL_rd (wn_none rfl) rfl (rd_load rfl rfl Try.underlying3 rfl ((cell_of_cells (hp.get 0 rfl) _).trans rfl)) ?_
  refine GL_rd (wn_none rfl) rfl (rd_field rfl rfl fa23_1 _ rfl) ?_
  refine GL_rd (wn_none rfl) rfl (rd_load rfl rfl Try.underlying3 rfl ((cell_of_cells (hp.get 2 rfl) _).trans rfl)) ?_
  refine GL_rd (wn_none rfl) rfl (rd_bin rfl rfl rfl (bo_int (q := plCl p) (bo_add64 (by omega)) rfl)) ?_
  refine GL_rd (wn_none rfl) rfl (rd_field rfl rfl fa101_3 _ rfl) ?_
  refine GL_store (i := 0) (wn_none rfl) rfl rfl rfl rfl ts3 rfl rfl (one1 rfl) hp rfl (by first | exact Nat.le_of_ble_eq_true rfl | simp [bys_length, *]) (show splice _ _ _ = ([.int .i64 p.s, .int .i64 p.t, .int .i64 p.c, .int .i64 p.a, .int .i64 5, .int .i64 (plTx p), .int .i64 (plCl p), .int .i64 0, .int .i64 0, .int .i64 0, .int .i64 0, .int .i64 0, .int .i64 (plEn p), .int .i64 (plRm p)] : List Value) from rfl) ?_
  intro w hp
  refine GL_nil ?_
  refine GW_seq ?_
  refine GW_region ?_
  refine GL_rd (wn_none rfl) rfl (rd_field rfl rfl fa101_3 _ rfl) ?_
  refine GL_rd (wn_none rfl) rfl (rd_load rfl rfl Try.underlying3 rfl ((cell_of_cells (hp.get 0 rfl) _).trans rfl)) ?_
  refine GL_rd (wn_none rfl) rfl (rd_field rfl rfl fa23_2 _ rfl) ?_
  refine GL_rd (wn_none rfl) rfl (rd_load rfl rfl Try.underlying3 rfl ((cell_of_cells (hp.get 2 rfl) _).trans rfl)) ?_
  refine GL_rd (wn_none rfl) rfl (rd_bin rfl rfl rfl (bo_int (q := plAu p) (bo_add64 (by omega)) rfl)) ?_
  refine GL_rd (wn_none rfl) rfl (rd_field rfl rfl fa101_4 _ rfl) ?_
  refine GL_store (i := 0) (wn_none rfl) rfl rfl rfl rfl ts3 rfl rfl (one1 rfl) hp rfl (by first | exact Nat.le_of_ble_eq_true rfl | simp [bys_length, *]) (show splice _ _ _ = ([.int .i64 p.s, .int .i64 p.t, .int .i64 p.c, .int .i64 p.a, .int .i64 5, .int .i64 (plTx p), .int .i64 (plCl p), .int .i64 (plAu p), .int .i64 0, .int .i64 0, .int .i64 0, .int .i64 0, .int .i64 (plEn p), .int .i64 (plRm p)] : List Value) from rfl) ?_
  intro w hp
  refine GL_nil ?_
  refine GW_seq ?_
  refine GW_region ?_
  refine GL_rd (wn_none rfl) rfl (rd_field rfl rfl fa101_4 _ rfl) ?_
  refine GL_rd (wn_none rfl) rfl (rd_load rfl rfl Try.underlying3 rfl ((cell_of_cells (hp.get 0 rfl) _).trans rfl)) ?_
  refine GL_rd (wn_none rfl) rfl (rd_field rfl rfl fa23_3 _ rfl) ?_
  refine GL_rd (wn_none rfl) rfl (rd_load rfl rfl Try.underlying3 rfl ((cell_of_cells (hp.get 2 rfl) _).trans rfl)) ?_
  refine GL_rd (wn_none rfl) rfl (rd_bin rfl rfl rfl (bo_int (q := plHd p) (bo_add64 (by omega)) rfl)) ?_
  refine GL_rd (wn_none rfl) rfl (rd_field rfl rfl fa101_5 _ rfl) ?_
  refine GL_store (i := 0) (wn_none rfl) rfl rfl rfl rfl ts3 rfl rfl (one1 rfl) hp rfl (by first | exact Nat.le_of_ble_eq_true rfl | simp [bys_length, *]) (show splice _ _ _ = ([.int .i64 p.s, .int .i64 p.t, .int .i64 p.c, .int .i64 p.a, .int .i64 5, .int .i64 (plTx p), .int .i64 (plCl p), .int .i64 (plAu p), .int .i64 (plHd p), .int .i64 0, .int .i64 0, .int .i64 0, .int .i64 (plEn p), .int .i64 (plRm p)] : List Value) from rfl) ?_
  intro w hp
  refine GL_nil ?_
  refine GW_seq ?_
  refine GW_region ?_
  refine GL_rd (wn_none rfl) rfl (rd_field rfl rfl fa101_5 _ rfl) ?_
  refine GL_rd (wn_none rfl) rfl (rd_load rfl rfl Try.underlying3 rfl ((cell_of_cells (hp.get 0 rfl) _).trans rfl)) ?_
  refine GL_rd (wn_none rfl) rfl (rd_bin rfl rfl rfl (bo_int (q := plBo p) (bo_add64 (by omega)) rfl)) ?_
  refine GL_rd (wn_none rfl) rfl (rd_field rfl rfl fa101_6 _ rfl) ?_
  refine GL_store (i := 0) (wn_none rfl) rfl rfl rfl rfl ts3 rfl rfl (one1 rfl) hp rfl (by first | exact Nat.le_of_ble_eq_true rfl | simp [bys_length, *]) (show splice _ _ _ = ([.int .i64 p.s, .int .i64 p.t, .int .i64 p.c, .int .i64 p.a, .int .i64 5, .int .i64 (plTx p), .int .i64 (plCl p), .int .i64 (plAu p), .int .i64 (plHd p), .int .i64 (plBo p), .int .i64 0, .int .i64 0, .int .i64 (plEn p), .int .i64 (plRm p)] : List Value) from rfl) ?_
  intro w hp
  refine GL_nil ?_
  refine GW_seq ?_
  refine GW_region ?_
  refine GL_rd (wn_none rfl) rfl (rd_field rfl rfl fa101_6 _ rfl) ?_
  refine GL_rd (wn_none rfl) rfl (rd_load rfl rfl Try.underlying3 rfl ((cell_of_cells (hp.get 0 rfl) _).trans rfl)) ?_
  refine GL_rd (wn_none rfl) rfl (rd_field rfl rfl fa101_10 _ rfl) ?_
  refine GL_rd (wn_none rfl) rfl (rd_load rfl rfl Try.underlying3 rfl ((cell_of_cells (hp.get 0 rfl) _).trans rfl)) ?_
  refine GL_rd (wn_none rfl) rfl (rd_bin rfl rfl rfl (bo_int (q := plSl p) (bo_add64 (by omega)) rfl)) ?_
  refine GL_rd (wn_none rfl) rfl (rd_field rfl rfl fa101_7 _ rfl) ?_
  refine GL_store (i := 0) (wn_none rfl) rfl rfl rfl rfl ts3 rfl rfl (one1 rfl) hp rfl (by first | exact Nat.le_of_ble_eq_true rfl | simp [bys_length, *]) (show splice _ _ _ = ([.int .i64 p.s, .int .i64 p.t, .int .i64 p.c, .int .i64 p.a, .int .i64 5, .int .i64 (plTx p), .int .i64 (plCl p), .int .i64 (plAu p), .int .i64 (plHd p), .int .i64 (plBo p), .int .i64 (plSl p), .int .i64 0, .int .i64 (plEn p), .int .i64 (plRm p)] : List Value) from rfl) ?_
  intro w hp
  refine GL_nil ?_
  refine GW_seq ?_
  refine GW_region ?_
  refine GL_rd (wn_none rfl) rfl (rd_field rfl rfl fa101_7 _ rfl) ?_
  refine GL_rd (wn_none rfl) rfl (rd_load rfl rfl Try.underlying3 rfl ((cell_of_cells (hp.get 0 rfl) _).trans rfl)) ?_
  refine GL_rd (wn_none rfl) rfl (rd_field rfl rfl fa23_0 _ rfl) ?_
  refine GL_rd (wn_none rfl) rfl (rd_load rfl rfl Try.underlying3 rfl ((cell_of_cells (hp.get 2 rfl) _).trans rfl)) ?_
  refine GL_rd (wn_none rfl) rfl (rd_bin rfl rfl rfl (bo_int (q := plTo p) (bo_add64 (by omega)) rfl)) ?_
  refine GL_rd (wn_none rfl) rfl (rd_field rfl rfl fa101_8 _ rfl) ?_
  refine GL_store (i := 0) (wn_none rfl) rfl rfl rfl rfl ts3 rfl rfl (one1 rfl) hp rfl (by first | exact Nat.le_of_ble_eq_true rfl | simp [bys_length, *]) (show splice _ _ _ = ([.int .i64 p.s, .int .i64 p.t, .int .i64 p.c, .int .i64 p.a, .int .i64 5, .int .i64 (plTx p), .int .i64 (plCl p), .int .i64 (plAu p), .int .i64 (plHd p), .int .i64 (plBo p), .int .i64 (plSl p), .int .i64 (plTo p), .int .i64 (plEn p), .int .i64 (plRm p)] : List Value) from rfl) ?_
  intro w hp
  refine GL_nil ?_
  refine GW_seq ?_
  refine GW_seq ?_
  refine GW_region ?_
  refine GL_rd (wn_none rfl) rfl (rd_field rfl rfl fa101_8 _ rfl) ?_
  refine GL_rd (wn_none rfl) rfl (rd_load rfl rfl Try.underlying3 rfl ((cell_of_cells (hp.get 0 rfl) _).trans rfl)) ?_
  refine GL_rd (wn_none rfl) rfl (rd_bin rfl rfl rfl bo_gtr) ?_
  refine GL_nil ?_
  refine GW_cond rfl (fun hb2 => ?_) (fun hb2 => ?_)
  ·(try simp only [decide_eq_true_eq, decide_eq_false_iff_not, Bool.not_eq_true', Bool.not_eq_false', Bool.not_eq_eq_eq_not, Bool.not_true, Bool.not_false, Int.not_lt, Int.not_le] at hb2)
   exact absurd hb2 (by omega)
  ·(try simp only [decide_eq_true_eq, decide_eq_false_iff_not, Bool.not_eq_true', Bool.not_eq_false', Bool.not_eq_eq_eq_not, Bool.not_true, Bool.not_false, Int.not_lt, Int.not_le] at hb2)
   refine GW_skip ?_
   refine GW_seq ?_
   refine GW_region ?_
   refine GL_rd (wn_none rfl) rfl (rd_loadC rfl rfl Try.underlying101 rfl ts101 (hp.get 0 rfl) (by first | rfl | simp [bys_length, *])) ?_
   refine GL_store (i := 1) (wn_none rfl) rfl rfl rfl rfl ts101 rfl rfl (oneC rfl (oneC rfl (oneC rfl (oneC rfl (oneC rfl (oneC rfl (oneC rfl (oneC rfl (oneC rfl (oneC rfl (oneC rfl (oneC rfl (oneC rfl (oneC rfl one0)))))))))))))) hp rfl (by first | exact Nat.le_of_ble_eq_true rfl | simp [bys_length, *]) (show splice _ _ _ = (layC p : List Value) from rfl) ?_
   intro w hp
   refine GL_rd (v := .int _ _) (wn_none rfl) rfl (rd_assign rfl rfl) ?_
   refine GL_nil ?_
   refine GW_ret ?_
   exact ⟨_, res2 Try.results45 (rv_cell rfl rfl Try.underlying101 rfl ts101 rfl (hp.get 1 rfl)) (rv_tmp (v := .int _ _) rfl rfl), by rw [hc, layV_yes hc], hp.mods⟩
theorem cl_New2 (w0 : World) : Does Try.prog 48 #[] w0 fun v w' => ∃ gq mq, v = .pointer (some ⟨gq, 0, none⟩) ∧ Hp w0 [] w' [cells gq 178 [.slice none 0 0, .map (some mq)], .blk mq (.map ⟨mapE 0 []⟩ 0)] := by
 refine does_of (l := []) Try.func48 (by kernel_rfl) rfl Try.ntmps48 rfl rfl (by kernel_rfl) ?_
 have hp := Hp.refl w0 []
 refine GW_seq ?_
 refine GW_region ?_
 refine GL_rd (v := _) (wn_none rfl) rfl (rd_assign rfl rfl) ?_
 refine GL_nil ?_
 refine GW_seq ?_
 refine GW_region ?_
 refine GL_makeMap (wn_none rfl) rfl rfl hp ?_
 intro g w hp
 refine GL_rd (wn_none rfl) rfl (rd_buildS (L := [.slice none 0 0, .map (some g)]) rfl tz178 pl178 (by kernel_rfl)) ?_
 refine GL_box (wn_none rfl) rfl rfl rfl rfl hp ?_
 intro g2 w hp
 refine GL_rd (v := .pointer (some ⟨_, _, none⟩)) (wn_none rfl) rfl (rd_assign rfl rfl) ?_
 refine GL_nil ?_
 refine GW_ret ?_
 have hp := (((hp.front 1 rfl).front 1 rfl).take 2)
 exact ⟨_, res1 Try.results48 (rv_tmp (v := .pointer (some ⟨_, _, none⟩)) rfl rfl), g2, g, rfl, hp⟩
set_option maxHeartbeats 2000000 in
theorem im_New (p : Pl) (w0 : World) (h0 : planC p = 0) : Does Try.prog 12 #[.agg ⟨plC p⟩] w0 fun v w' => ∃ gx mg tg cq mq tv cv mv ev, v = .tuple #[.pointer (some ⟨gx, 0, none⟩), .int .i64 0] ∧ Hp w0 [] w' [packL (imH 117 171 174 164 158 160 5 gx (imN p mg tg cq tv cv mv ev) ++ [cells cq 178 [.slice none 0 0, .map (some mq)], .blk mq (.map ⟨mapE 0 []⟩ 0)])] := by
 have hpb : planB p = true := planB_of h0
 have hpi := planB_iff.1 hpb
 have hpn := pl_bounds hpb
 have hly := layV_yes h0
 obtain ⟨ns, hns⟩ : ∃ n : Nat, p.s = (n : Int) := ⟨p.s.toNat, by omega⟩
 obtain ⟨nt, hnt⟩ : ∃ n : Nat, p.t = (n : Int) := ⟨p.t.toNat, by omega⟩
 obtain ⟨nc, hnc⟩ : ∃ n : Nat, p.c = (n : Int) := ⟨p.c.toNat, by omega⟩
 obtain ⟨ne, hne⟩ : ∃ n : Nat, plEn p = (n : Int) := ⟨(plEn p).toNat, by unfold plEn; omega⟩
 have hne2 : 1 ≤ ne ∧ ne ≤ 406 := by unfold plEn at hne; omega
 refine does_of (l := [.agg ⟨plC p⟩]) Try.func12 (by kernel_rfl) rfl Try.ntmps12 rfl rfl (by kernel_rfl) ?_
 have hp := Hp.refl w0 []
 refine GW_seq ?_
 refine GW_region ?_
 refine GL_box (wn_none rfl) rfl rfl rfl rfl hp ?_
 intro g w hp
 refine GL_rd (v := _) (wn_none rfl) rfl (rd_assign rfl rfl) ?_
 refine GL_rd (v := .int _ _) (wn_none rfl) rfl (rd_assign rfl rfl) ?_
 refine GL_nil ?_
 refine GW_seq ?_
 refine GW_region ?_
 refine GL_rd (wn_none rfl) rfl (rd_loadC rfl rfl Try.underlying23 rfl ts23 (hp.get 0 rfl) (by first | (rw [bys_length]; first | exact a32_len _) | rfl | simp [bys_length, *])) ?_
 refine GL_call (wn_none rfl) rfl rfl (plan_Of p _) rfl ?_
 rintro v0 w ⟨hv, hk⟩
 have hp := hp.comp hk
 obtain rfl : v0 = .tuple #[.agg ⟨layC p⟩, .int .i64 0] := hv.trans (by rw [hly, h0])
 refine GL_rd (v := .tuple _) (wn_none rfl) rfl (rd_move rfl rfl) ?_
 refine GL_rd (v := .agg ⟨_⟩) (wn_none rfl) rfl (rd_extract rfl rfl rfl) ?_
 refine GL_rd (v := .int _ _) (wn_none rfl) rfl (rd_extract rfl rfl rfl) ?_
 refine GL_alloc (wn_none rfl) rfl rfl tz101 rfl hp ?_
 intro g2 w hp
 refine GL_store (i := 0) (wn_none rfl) rfl rfl rfl rfl ts101 rfl rfl (oneC rfl (oneC rfl (oneC rfl (oneC rfl (oneC rfl (oneC rfl (oneC rfl (oneC rfl (oneC rfl (oneC rfl (oneC rfl (oneC rfl (oneC rfl (oneC rfl one0)))))))))))))) hp rfl (by first | exact Nat.le_of_ble_eq_true rfl | simp [bys_length, *]) rfl ?_
 intro w hp
 refine GL_rd (v := .int _ _) (wn_none rfl) rfl (rd_assign rfl rfl) ?_
 refine GL_nil ?_
 refine GW_seq ?_
 refine GW_seq ?_
 refine GW_region ?_
 refine GL_rd (v := .int _ _) (wn_none rfl) rfl (rd_move rfl rfl) ?_
 refine GL_rd (wn_none rfl) rfl (rd_bin rfl rfl rfl (bo_boolE (q := false) bo_neq (by decide))) ?_
 refine GL_nil ?_
 refine GW_false rfl ?_
 refine GW_skip ?_
 refine GW_seq ?_
 refine GW_region ?_
 refine GL_rd (wn_none rfl) rfl (rd_field rfl rfl fa23_0 _ rfl) ?_
 refine GL_rd (wn_none rfl) rfl (rd_load rfl rfl Try.underlying3 rfl ((cell_of_cells (hp.get 1 rfl) _).trans rfl)) ?_
 refine GL_call (wn_none rfl) rfl rfl (sm_New p.s ns _ hns (by omega)) rfl ?_
 rintro _ w ⟨mg, mv, rfl, hk⟩
 have hp := hp.comp hk
 refine GL_rd (v := .tuple _) (wn_none rfl) rfl (rd_move rfl rfl) ?_
 refine GL_rd (v := .pointer (some ⟨mg, 0, none⟩)) (wn_none rfl) rfl (rd_extract rfl rfl rfl) ?_
 refine GL_rd (v := .int _ _) (wn_none rfl) rfl (rd_extract rfl rfl rfl) ?_
 refine GL_rd (v := .pointer (some ⟨mg, 0, none⟩)) (wn_none rfl) rfl (rd_assign rfl rfl) ?_
 refine GL_rd (v := .int _ _) (wn_none rfl) rfl (rd_assign rfl rfl) ?_
 refine GL_nil ?_
 refine GW_seq ?_
 refine GW_region ?_
 refine GL_rd (wn_none rfl) rfl (rd_field rfl rfl fa101_9 _ rfl) ?_
 refine GL_rd (wn_none rfl) rfl (rd_load rfl rfl Try.underlying3 rfl ((cell_of_cells (hp.get 2 rfl) _).trans rfl)) ?_
 refine GL_call (wn_none rfl) rfl rfl (tb_New (plEn p) ne _ hne hne2) rfl ?_
 rintro _ w ⟨tg, ev, rfl, hk⟩
 have hp := hp.comp hk
 refine GL_rd (v := .tuple _) (wn_none rfl) rfl (rd_move rfl rfl) ?_
 refine GL_rd (v := .pointer (some ⟨tg, 0, none⟩)) (wn_none rfl) rfl (rd_extract rfl rfl rfl) ?_
 refine GL_rd (v := .int _ _) (wn_none rfl) rfl (rd_extract rfl rfl rfl) ?_
 refine GL_rd (v := .pointer (some ⟨tg, 0, none⟩)) (wn_none rfl) rfl (rd_assign rfl rfl) ?_
 refine GL_rd (v := .int _ _) (wn_none rfl) rfl (rd_assign rfl rfl) ?_
 refine GL_nil ?_
 refine GW_seq ?_
 refine GW_drawnK 14 (.one 0 true (.one 1 true (.one 2 true (.one 4 true (.one 5 true (.one 7 true (.one 8 true (.alt 3 (.two 6 9 (.one 9 false (.one 10 true (.one 11 false (.one 12 true (.one 13 true .nil))))) (.one 6 false (.one 10 true (.one 11 false (.one 12 true (.one 13 true .nil)))))) (.alt 6 (.two 3 9 (.one 9 false (.one 10 true (.one 11 false (.one 12 true (.one 13 true .nil))))) (.one 3 false (.one 10 true (.one 11 false (.one 12 true (.one 13 true .nil)))))) (.one 9 false (.two 3 6 (.one 6 false (.one 10 true (.one 11 false (.one 12 true (.one 13 true .nil))))) (.one 3 false (.one 10 true (.one 11 false (.one 12 true (.one 13 true .nil)))))))))))))))) mixed (by kernel_rfl) hp (fun _ h => (h.sub (.cons _ (.cons _ (.cons _ (.cons _ (.cons_cons _ (.cons_cons _ .slnil)))))))) fun w hp => ?_
 have hpS := (hp.sub (.cons _ (.cons _ (.cons _ (.cons _ (.cons_cons _ (.cons_cons _ .slnil)))))))
 refine GO_rd rfl rfl (wn_none rfl) rfl hpS (fun w hp => (rd_loadC rfl rfl Try.underlying101 rfl ts101 (hp.get 0 rfl) (by first | (rw [bys_length]; first | exact a32_len _) | rfl | simp [bys_length, *]))) ?_
 refine GO_rdT (v := .pointer (some ⟨mg, 0, none⟩)) rfl (wn_none rfl) rfl (fun w => (rd_move rfl rfl)) ?_
 refine GO_rdT (v := .pointer (some ⟨tg, 0, none⟩)) rfl (wn_none rfl) rfl (fun w => (rd_move rfl rfl)) ?_
 refine GO_rdT rfl (wn_none rfl) rfl (fun w => (rd_field rfl rfl fa23_1 _ rfl)) ?_
 refine GO_rd rfl rfl (wn_none rfl) rfl hpS (fun w hp => (rd_load rfl rfl Try.underlying3 rfl ((cell_of_cells (hp.get 1 rfl) _).trans rfl))) ?_
 refine GO_rdT rfl (wn_none rfl) rfl (fun w => (rd_field rfl rfl fa23_2 _ rfl)) ?_
 refine GO_rd rfl rfl (wn_none rfl) rfl hpS (fun w hp => (rd_load rfl rfl Try.underlying3 rfl ((cell_of_cells (hp.get 1 rfl) _).trans rfl))) ?_
 refine GO_alt rfl ?_ (GX_alt rfl ?_ (GX_one rfl ?_))
 ·skip
  refine GC_of_GL ?_
  refine GL_call (wn_none rfl) rfl rfl (cl_New2 _) rfl ?_
  rintro _ w ⟨cq, mq, rfl, hk⟩
  have hp := hp.comp hk
  have hpS2 := (hp.sub (.cons _ (.cons _ (.cons _ (.cons _ (.cons _ (.cons _ (.cons_cons _ (.cons_cons _ .slnil)))))))))
  refine GL_nil ⟨fun _ => hpS2, ?_⟩
  refine GO_two rfl rfl ?_ ?_
  ·skip
   refine GC_of_GL ?_
   refine GL_makeN (e := tvC) (a := tvZ) (m := nt) (wn_none rfl) rfl rfl rfl Try.underlying112 ti158 tvC_len (by decide) tvZ_cells hnt (by omega) (by omega) hp ?_
   intro g3 w hp
   have hpS3 := (hp.sub (.cons _ (.cons _ (.cons _ (.cons _ (.cons _ (.cons _ (.cons _ (.cons_cons _ (.cons_cons _ .slnil))))))))))
   refine GL_nil ⟨fun _ => hpS3, ?_⟩
   refine GO_of_GL rfl ?_
   refine GL_makeN (e := cvC) (a := cvZ) (m := nc) (wn_none rfl) rfl rfl rfl Try.underlying113 ti160 cvC_len (by decide) cvZ_cells hnc (by omega) (by omega) hp ?_
   intro g4 w hp
   have hpS4 := (hp.sub (.cons _ (.cons _ (.cons _ (.cons _ (.cons _ (.cons _ (.cons _ (.cons _ (.cons_cons _ (.cons_cons _ .slnil)))))))))))
   refine GL_nil ⟨fun _ => hpS4, ?_⟩
   refine GO_rd rfl rfl (wn_none rfl) rfl hpS4 (fun w hp => (rd_buildS (L := (layC p ++ [.pointer (some ⟨mg, 0, none⟩), .pointer (some ⟨tg, 0, none⟩), .pointer (some ⟨cq, 0, none⟩), .slice (some ⟨g3, 0, none⟩) nt nt, .slice (some ⟨g4, 0, none⟩) nc nc, .slice none 0 0, .int .i64 0, .int .i64 0])) rfl tz117 pl117 (by kernel_rfl))) ?_
   refine GO_of_GL rfl ?_
   refine GL_box (wn_none rfl) rfl rfl rfl rfl hp ?_
   intro g5 w hp
   have hpS5 := (hp.sub (.cons _ (.cons _ (.cons _ (.cons _ (.cons _ (.cons _ (.cons _ (.cons _ (.cons _ (.cons_cons _ (.cons_cons _ .slnil))))))))))))
   refine GL_nil ⟨fun _ => hpS5, ?_⟩
   refine GO_rdT (v := .pointer (some ⟨_, _, none⟩)) rfl (wn_none rfl) rfl (fun w => (rd_assign rfl rfl)) ?_
   refine GO_rdT (v := .int _ _) rfl (wn_none rfl) rfl (fun w => (rd_assign rfl rfl)) ?_
   refine GO_nil ?_
   refine GW_ret ?_
   have hp := ((((((((((hp.front 4 rfl).front 4 rfl).front 3 rfl).front 4 rfl).front 6 rfl).front 6 rfl).front 8 rfl).front 8 rfl).front 8 rfl).take 9)
   have hp := Hp.pack (l := imH 117 171 174 164 158 160 5 g5 (imN p mg tg cq (.slice (some ⟨g3, 0, none⟩) nt nt) (.slice (some ⟨g4, 0, none⟩) nc nc) mv ev) ++ [cells cq 178 [.slice none 0 0, .map (some mq)], .blk mq (.map ⟨mapE 0 []⟩ 0)]) (H := []) (by rw [imH_new hns hnt hnc hne]; exact hp)
   exact ⟨_, res2 Try.results12 (rv_tmp (v := .pointer (some ⟨_, _, none⟩)) rfl rfl) (rv_tmp (v := .int _ _) rfl rfl), _, _, _, _, _, _, _, _, _, rfl, hp⟩
  ·skip
   refine GC_of_GL ?_
   refine GL_makeN (e := cvC) (a := cvZ) (m := nc) (wn_none rfl) rfl rfl rfl Try.underlying113 ti160 cvC_len (by decide) cvZ_cells hnc (by omega) (by omega) hp ?_
   intro g6 w hp
   have hpS6 := (hp.sub (.cons _ (.cons _ (.cons _ (.cons _ (.cons _ (.cons _ (.cons _ (.cons_cons _ (.cons_cons _ .slnil))))))))))
   refine GL_nil ⟨fun _ => hpS6, ?_⟩
   refine GO_of_GL rfl ?_
   refine GL_makeN (e := tvC) (a := tvZ) (m := nt) (wn_none rfl) rfl rfl rfl Try.underlying112 ti158 tvC_len (by decide) tvZ_cells hnt (by omega) (by omega) hp ?_
   intro g7 w hp
   have hpS7 := (hp.sub (.cons _ (.cons _ (.cons _ (.cons _ (.cons _ (.cons _ (.cons _ (.cons _ (.cons_cons _ (.cons_cons _ .slnil)))))))))))
   refine GL_nil ⟨fun _ => hpS7, ?_⟩
   refine GO_rd rfl rfl (wn_none rfl) rfl hpS7 (fun w hp => (rd_buildS (L := (layC p ++ [.pointer (some ⟨mg, 0, none⟩), .pointer (some ⟨tg, 0, none⟩), .pointer (some ⟨cq, 0, none⟩), .slice (some ⟨g7, 0, none⟩) nt nt, .slice (some ⟨g6, 0, none⟩) nc nc, .slice none 0 0, .int .i64 0, .int .i64 0])) rfl tz117 pl117 (by kernel_rfl))) ?_
   refine GO_of_GL rfl ?_
   refine GL_box (wn_none rfl) rfl rfl rfl rfl hp ?_
   intro g8 w hp
   have hpS8 := (hp.sub (.cons _ (.cons _ (.cons _ (.cons _ (.cons _ (.cons _ (.cons _ (.cons _ (.cons _ (.cons_cons _ (.cons_cons _ .slnil))))))))))))
   refine GL_nil ⟨fun _ => hpS8, ?_⟩
   refine GO_rdT (v := .pointer (some ⟨_, _, none⟩)) rfl (wn_none rfl) rfl (fun w => (rd_assign rfl rfl)) ?_
   refine GO_rdT (v := .int _ _) rfl (wn_none rfl) rfl (fun w => (rd_assign rfl rfl)) ?_
   refine GO_nil ?_
   refine GW_ret ?_
   have hp := ((((((((((hp.front 4 rfl).front 4 rfl).front 4 rfl).front 4 rfl).front 6 rfl).front 6 rfl).front 8 rfl).front 8 rfl).front 8 rfl).take 9)
   have hp := Hp.pack (l := imH 117 171 174 164 158 160 5 g8 (imN p mg tg cq (.slice (some ⟨g7, 0, none⟩) nt nt) (.slice (some ⟨g6, 0, none⟩) nc nc) mv ev) ++ [cells cq 178 [.slice none 0 0, .map (some mq)], .blk mq (.map ⟨mapE 0 []⟩ 0)]) (H := []) (by rw [imH_new hns hnt hnc hne]; exact hp)
   exact ⟨_, res2 Try.results12 (rv_tmp (v := .pointer (some ⟨_, _, none⟩)) rfl rfl) (rv_tmp (v := .int _ _) rfl rfl), _, _, _, _, _, _, _, _, _, rfl, hp⟩
 ·skip
  refine GC_of_GL ?_
  refine GL_makeN (e := tvC) (a := tvZ) (m := nt) (wn_none rfl) rfl rfl rfl Try.underlying112 ti158 tvC_len (by decide) tvZ_cells hnt (by omega) (by omega) hp ?_
  intro g9 w hp
  have hpS9 := (hp.sub (.cons _ (.cons _ (.cons _ (.cons _ (.cons _ (.cons_cons _ (.cons_cons _ .slnil))))))))
  refine GL_nil ⟨fun _ => hpS9, ?_⟩
  refine GO_two rfl rfl ?_ ?_
  ·skip
   refine GC_of_GL ?_
   refine GL_call (wn_none rfl) rfl rfl (cl_New2 _) rfl ?_
   rintro _ w ⟨cq, mq, rfl, hk⟩
   have hp := hp.comp hk
   have hpS10 := (hp.sub (.cons _ (.cons _ (.cons _ (.cons _ (.cons _ (.cons _ (.cons _ (.cons_cons _ (.cons_cons _ .slnil))))))))))
   refine GL_nil ⟨fun _ => hpS10, ?_⟩
   refine GO_of_GL rfl ?_
   refine GL_makeN (e := cvC) (a := cvZ) (m := nc) (wn_none rfl) rfl rfl rfl Try.underlying113 ti160 cvC_len (by decide) cvZ_cells hnc (by omega) (by omega) hp ?_
   intro g10 w hp
   have hpS11 := (hp.sub (.cons _ (.cons _ (.cons _ (.cons _ (.cons _ (.cons _ (.cons _ (.cons _ (.cons_cons _ (.cons_cons _ .slnil)))))))))))
   refine GL_nil ⟨fun _ => hpS11, ?_⟩
   refine GO_rd rfl rfl (wn_none rfl) rfl hpS11 (fun w hp => (rd_buildS (L := (layC p ++ [.pointer (some ⟨mg, 0, none⟩), .pointer (some ⟨tg, 0, none⟩), .pointer (some ⟨cq, 0, none⟩), .slice (some ⟨g9, 0, none⟩) nt nt, .slice (some ⟨g10, 0, none⟩) nc nc, .slice none 0 0, .int .i64 0, .int .i64 0])) rfl tz117 pl117 (by kernel_rfl))) ?_
   refine GO_of_GL rfl ?_
   refine GL_box (wn_none rfl) rfl rfl rfl rfl hp ?_
   intro g11 w hp
   have hpS12 := (hp.sub (.cons _ (.cons _ (.cons _ (.cons _ (.cons _ (.cons _ (.cons _ (.cons _ (.cons _ (.cons_cons _ (.cons_cons _ .slnil))))))))))))
   refine GL_nil ⟨fun _ => hpS12, ?_⟩
   refine GO_rdT (v := .pointer (some ⟨_, _, none⟩)) rfl (wn_none rfl) rfl (fun w => (rd_assign rfl rfl)) ?_
   refine GO_rdT (v := .int _ _) rfl (wn_none rfl) rfl (fun w => (rd_assign rfl rfl)) ?_
   refine GO_nil ?_
   refine GW_ret ?_
   have hp := ((((((((((hp.front 3 rfl).front 3 rfl).front 3 rfl).front 4 rfl).front 6 rfl).front 6 rfl).front 8 rfl).front 8 rfl).front 8 rfl).take 9)
   have hp := Hp.pack (l := imH 117 171 174 164 158 160 5 g11 (imN p mg tg cq (.slice (some ⟨g9, 0, none⟩) nt nt) (.slice (some ⟨g10, 0, none⟩) nc nc) mv ev) ++ [cells cq 178 [.slice none 0 0, .map (some mq)], .blk mq (.map ⟨mapE 0 []⟩ 0)]) (H := []) (by rw [imH_new hns hnt hnc hne]; exact hp)
   exact ⟨_, res2 Try.results12 (rv_tmp (v := .pointer (some ⟨_, _, none⟩)) rfl rfl) (rv_tmp (v := .int _ _) rfl rfl), _, _, _, _, _, _, _, _, _, rfl, hp⟩
  ·skip
   refine GC_of_GL ?_
   refine GL_makeN (e := cvC) (a := cvZ) (m := nc) (wn_none rfl) rfl rfl rfl Try.underlying113 ti160 cvC_len (by decide) cvZ_cells hnc (by omega) (by omega) hp ?_
   intro g12 w hp
   have hpS13 := (hp.sub (.cons _ (.cons _ (.cons _ (.cons _ (.cons _ (.cons _ (.cons_cons _ (.cons_cons _ .slnil)))))))))
   refine GL_nil ⟨fun _ => hpS13, ?_⟩
   refine GO_of_GL rfl ?_
   refine GL_call (wn_none rfl) rfl rfl (cl_New2 _) rfl ?_
   rintro _ w ⟨cq, mq, rfl, hk⟩
   have hp := hp.comp hk
   have hpS14 := (hp.sub (.cons _ (.cons _ (.cons _ (.cons _ (.cons _ (.cons _ (.cons _ (.cons _ (.cons_cons _ (.cons_cons _ .slnil)))))))))))
   refine GL_nil ⟨fun _ => hpS14, ?_⟩
   refine GO_rd rfl rfl (wn_none rfl) rfl hpS14 (fun w hp => (rd_buildS (L := (layC p ++ [.pointer (some ⟨mg, 0, none⟩), .pointer (some ⟨tg, 0, none⟩), .pointer (some ⟨cq, 0, none⟩), .slice (some ⟨g9, 0, none⟩) nt nt, .slice (some ⟨g12, 0, none⟩) nc nc, .slice none 0 0, .int .i64 0, .int .i64 0])) rfl tz117 pl117 (by kernel_rfl))) ?_
   refine GO_of_GL rfl ?_
   refine GL_box (wn_none rfl) rfl rfl rfl rfl hp ?_
   intro g13 w hp
   have hpS15 := (hp.sub (.cons _ (.cons _ (.cons _ (.cons _ (.cons _ (.cons _ (.cons _ (.cons _ (.cons _ (.cons_cons _ (.cons_cons _ .slnil))))))))))))
   refine GL_nil ⟨fun _ => hpS15, ?_⟩
   refine GO_rdT (v := .pointer (some ⟨_, _, none⟩)) rfl (wn_none rfl) rfl (fun w => (rd_assign rfl rfl)) ?_
   refine GO_rdT (v := .int _ _) rfl (wn_none rfl) rfl (fun w => (rd_assign rfl rfl)) ?_
   refine GO_nil ?_
   refine GW_ret ?_
   have hp := ((((((((((hp.front 2 rfl).front 2 rfl).front 3 rfl).front 4 rfl).front 6 rfl).front 6 rfl).front 8 rfl).front 8 rfl).front 8 rfl).take 9)
   have hp := Hp.pack (l := imH 117 171 174 164 158 160 5 g13 (imN p mg tg cq (.slice (some ⟨g9, 0, none⟩) nt nt) (.slice (some ⟨g12, 0, none⟩) nc nc) mv ev) ++ [cells cq 178 [.slice none 0 0, .map (some mq)], .blk mq (.map ⟨mapE 0 []⟩ 0)]) (H := []) (by rw [imH_new hns hnt hnc hne]; exact hp)
   exact ⟨_, res2 Try.results12 (rv_tmp (v := .pointer (some ⟨_, _, none⟩)) rfl rfl) (rv_tmp (v := .int _ _) rfl rfl), _, _, _, _, _, _, _, _, _, rfl, hp⟩
 ·skip
  refine GC_of_GL ?_
  refine GL_makeN (e := cvC) (a := cvZ) (m := nc) (wn_none rfl) rfl rfl rfl Try.underlying113 ti160 cvC_len (by decide) cvZ_cells hnc (by omega) (by omega) hp ?_
  intro g14 w hp
  have hpS16 := (hp.sub (.cons _ (.cons _ (.cons _ (.cons _ (.cons _ (.cons_cons _ (.cons_cons _ .slnil))))))))
  refine GL_nil ⟨fun _ => hpS16, ?_⟩
  refine GO_two rfl rfl ?_ ?_
  ·skip
   refine GC_of_GL ?_
   refine GL_call (wn_none rfl) rfl rfl (cl_New2 _) rfl ?_
   rintro _ w ⟨cq, mq, rfl, hk⟩
   have hp := hp.comp hk
   have hpS17 := (hp.sub (.cons _ (.cons _ (.cons _ (.cons _ (.cons _ (.cons _ (.cons _ (.cons_cons _ (.cons_cons _ .slnil))))))))))
   refine GL_nil ⟨fun _ => hpS17, ?_⟩
   refine GO_of_GL rfl ?_
   refine GL_makeN (e := tvC) (a := tvZ) (m := nt) (wn_none rfl) rfl rfl rfl Try.underlying112 ti158 tvC_len (by decide) tvZ_cells hnt (by omega) (by omega) hp ?_
   intro g15 w hp
   have hpS18 := (hp.sub (.cons _ (.cons _ (.cons _ (.cons _ (.cons _ (.cons _ (.cons _ (.cons _ (.cons_cons _ (.cons_cons _ .slnil)))))))))))
   refine GL_nil ⟨fun _ => hpS18, ?_⟩
   refine GO_rd rfl rfl (wn_none rfl) rfl hpS18 (fun w hp => (rd_buildS (L := (layC p ++ [.pointer (some ⟨mg, 0, none⟩), .pointer (some ⟨tg, 0, none⟩), .pointer (some ⟨cq, 0, none⟩), .slice (some ⟨g15, 0, none⟩) nt nt, .slice (some ⟨g14, 0, none⟩) nc nc, .slice none 0 0, .int .i64 0, .int .i64 0])) rfl tz117 pl117 (by kernel_rfl))) ?_
   refine GO_of_GL rfl ?_
   refine GL_box (wn_none rfl) rfl rfl rfl rfl hp ?_
   intro g16 w hp
   have hpS19 := (hp.sub (.cons _ (.cons _ (.cons _ (.cons _ (.cons _ (.cons _ (.cons _ (.cons _ (.cons _ (.cons_cons _ (.cons_cons _ .slnil))))))))))))
   refine GL_nil ⟨fun _ => hpS19, ?_⟩
   refine GO_rdT (v := .pointer (some ⟨_, _, none⟩)) rfl (wn_none rfl) rfl (fun w => (rd_assign rfl rfl)) ?_
   refine GO_rdT (v := .int _ _) rfl (wn_none rfl) rfl (fun w => (rd_assign rfl rfl)) ?_
   refine GO_nil ?_
   refine GW_ret ?_
   have hp := ((((((((((hp.front 3 rfl).front 3 rfl).front 4 rfl).front 4 rfl).front 6 rfl).front 6 rfl).front 8 rfl).front 8 rfl).front 8 rfl).take 9)
   have hp := Hp.pack (l := imH 117 171 174 164 158 160 5 g16 (imN p mg tg cq (.slice (some ⟨g15, 0, none⟩) nt nt) (.slice (some ⟨g14, 0, none⟩) nc nc) mv ev) ++ [cells cq 178 [.slice none 0 0, .map (some mq)], .blk mq (.map ⟨mapE 0 []⟩ 0)]) (H := []) (by rw [imH_new hns hnt hnc hne]; exact hp)
   exact ⟨_, res2 Try.results12 (rv_tmp (v := .pointer (some ⟨_, _, none⟩)) rfl rfl) (rv_tmp (v := .int _ _) rfl rfl), _, _, _, _, _, _, _, _, _, rfl, hp⟩
  ·skip
   refine GC_of_GL ?_
   refine GL_makeN (e := tvC) (a := tvZ) (m := nt) (wn_none rfl) rfl rfl rfl Try.underlying112 ti158 tvC_len (by decide) tvZ_cells hnt (by omega) (by omega) hp ?_
   intro g17 w hp
   have hpS20 := (hp.sub (.cons _ (.cons _ (.cons _ (.cons _ (.cons _ (.cons _ (.cons_cons _ (.cons_cons _ .slnil)))))))))
   refine GL_nil ⟨fun _ => hpS20, ?_⟩
   refine GO_of_GL rfl ?_
   refine GL_call (wn_none rfl) rfl rfl (cl_New2 _) rfl ?_
   rintro _ w ⟨cq, mq, rfl, hk⟩
   have hp := hp.comp hk
   have hpS21 := (hp.sub (.cons _ (.cons _ (.cons _ (.cons _ (.cons _ (.cons _ (.cons _ (.cons _ (.cons_cons _ (.cons_cons _ .slnil)))))))))))
   refine GL_nil ⟨fun _ => hpS21, ?_⟩
   refine GO_rd rfl rfl (wn_none rfl) rfl hpS21 (fun w hp => (rd_buildS (L := (layC p ++ [.pointer (some ⟨mg, 0, none⟩), .pointer (some ⟨tg, 0, none⟩), .pointer (some ⟨cq, 0, none⟩), .slice (some ⟨g17, 0, none⟩) nt nt, .slice (some ⟨g14, 0, none⟩) nc nc, .slice none 0 0, .int .i64 0, .int .i64 0])) rfl tz117 pl117 (by kernel_rfl))) ?_
   refine GO_of_GL rfl ?_
   refine GL_box (wn_none rfl) rfl rfl rfl rfl hp ?_
   intro g18 w hp
   have hpS22 := (hp.sub (.cons _ (.cons _ (.cons _ (.cons _ (.cons _ (.cons _ (.cons _ (.cons _ (.cons _ (.cons_cons _ (.cons_cons _ .slnil))))))))))))
   refine GL_nil ⟨fun _ => hpS22, ?_⟩
   refine GO_rdT (v := .pointer (some ⟨_, _, none⟩)) rfl (wn_none rfl) rfl (fun w => (rd_assign rfl rfl)) ?_
   refine GO_rdT (v := .int _ _) rfl (wn_none rfl) rfl (fun w => (rd_assign rfl rfl)) ?_
   refine GO_nil ?_
   refine GW_ret ?_
   have hp := ((((((((((hp.front 2 rfl).front 2 rfl).front 4 rfl).front 4 rfl).front 6 rfl).front 6 rfl).front 8 rfl).front 8 rfl).front 8 rfl).take 9)
   have hp := Hp.pack (l := imH 117 171 174 164 158 160 5 g18 (imN p mg tg cq (.slice (some ⟨g17, 0, none⟩) nt nt) (.slice (some ⟨g14, 0, none⟩) nc nc) mv ev) ++ [cells cq 178 [.slice none 0 0, .map (some mq)], .blk mq (.map ⟨mapE 0 []⟩ 0)]) (H := []) (by rw [imH_new hns hnt hnc hne]; exact hp)
   exact ⟨_, res2 Try.results12 (rv_tmp (v := .pointer (some ⟨_, _, none⟩)) rfl rfl) (rv_tmp (v := .int _ _) rfl rfl), _, _, _, _, _, _, _, _, _, rfl, hp⟩
set_option maxHeartbeats 1000000 in
theorem im_Text (gx : Nat) (I : Im) (a : A32) (w0 : World) (hT : ImAt 117 171 174 gx I w0) : Does Try.prog 79 #[.pointer (some ⟨gx, 0, none⟩), .agg ⟨bys a.1⟩] w0 fun v w' => v = .int .i64 (txF I.T a) ∧ Hp w0 [] w' [] := by
 obtain ⟨At, ct, htv⟩ := sl_shape hT.tx
 have htx := hT.tx
 rw [htv] at htx
 have htle := htx.le
 refine does_of (l := [.pointer (some ⟨gx, 0, none⟩), .agg ⟨bys a.1⟩]) Try.func79 (by kernel_rfl) rfl Try.ntmps79 rfl rfl (by kernel_rfl) ?_
 have hp := Hp.refl w0 []
 refine GW_seq ?_
 refine GW_region ?_
 refine GL_box (wn_none rfl) rfl rfl rfl rfl hp ?_
 intro g w hp
 refine GL_rd (v := .int _ _) (wn_none rfl) rfl (rd_assign rfl rfl) ?_
 refine GL_nil ?_
 refine GW_seq ?_
 refine GW_seq ?_
 refine GW_region ?_
 refine GL_rd (v := .pointer (some ⟨gx, 0, none⟩)) (wn_none rfl) rfl (rd_move rfl rfl) ?_
 refine GL_rd (wn_none rfl) rfl (rd_nilCheck rfl rfl) ?_
 refine GL_rd (wn_none rfl) rfl (rd_field rfl rfl fa117_4 _ rfl) ?_
 refine GL_rd (v := .slice _ _ _) (wn_none rfl) rfl (rd_load rfl rfl Try.underlying112 rfl ((cell_of_cells (hT.keep hp.mod).i _).trans (Eq.trans (show (imC I)[17]? = some I.tv from rfl) (congrArg some htv)))) ?_
 refine GL_rd (wn_none rfl) rfl (rd_len rfl rfl Try.underlying112) ?_
 refine GL_rd (v := .int _ _) (wn_none rfl) rfl (rd_move rfl rfl) ?_
 refine GL_nil ?_
 refine GW_block ?_
 refine GW_loop ?_
 refine Lp_ind (α := Nat × Option Addr) (fun a_0 f_0 w' => match a_0 with | (i, At) => ∃ fz, f_0 = (upd (upd (upd (upd fz 10 (.slice At I.T.length ct)) 11 (.int .i64 (I.T.length : Int))) 12 (.int .i64 (i : Int))) 3 (.pointer (some ⟨g, 0, none⟩))) ∧ Hp w0 [] w' [cells g 66 (bys a.1)] ∧ (i ≤ I.T.length) ∧ (Sl w0 (.slice At I.T.length ct) 35 I.T.length (I.T.flatMap tvC)) ∧ (∀ j, j < i → ¬ (0 < (tvAt I.T j).1.size ∧ (tvAt I.T j).1.addr = a))) (fun a_0 => match a_0 with | (i, At) => I.T.length - i) ?_ (0, At) _ _ ?_
 ·rintro ⟨i, At⟩ f wz ⟨fz, rfl, hp, hi0, htx, hok⟩ ihL0
  refine Lp_round ?_
  refine GW_seq ?_
  refine GW_region ?_
  refine GL_rd (wn_none rfl) rfl (rd_bin rfl rfl rfl bo_lss) ?_
  refine GL_nil ?_
  refine GW_seq ?_
  refine GW_cond rfl (fun hb => ?_) (fun hb => ?_)
  ·(try simp only [decide_eq_true_eq, decide_eq_false_iff_not, Bool.not_eq_true', Bool.not_eq_false', Bool.not_eq_eq_eq_not, Bool.not_true, Bool.not_false, Int.not_lt, Int.not_le] at hb)
   obtain ⟨gA, bA, rfl⟩ := htx.addr (by rw [flat_length tvC_len]; omega)
   refine GW_skip ?_
   refine GW_seq ?_
   refine GW_block ?_
   refine GW_seq ?_
   refine GW_region ?_
   refine GL_rd (v := .int _ _) (wn_none rfl) rfl (rd_move rfl rfl) ?_
   refine GL_rd (wn_none rfl) rfl (rd_indexS (j := i) rfl rfl rfl Try.underlying112 ts158 rfl (by omega) _ rfl) ?_
   refine GL_rd (wn_none rfl) rfl (rd_loadN (L := tvC _) rfl rfl Try.underlying158 rfl ts158 (tvC_len _) (fun jq u hj => Sl.tvE (htx.keep hp.mod) i (by first | omega | assumption | exact Nat.lt_succ_self _) hj)) ?_
   refine GL_alloc (wn_none rfl) rfl rfl tz158 rfl hp ?_
   intro g2 w hp
   refine GL_rd (v := .int _ _) (wn_none rfl) rfl (rd_assign rfl rfl) ?_
   refine GL_store (i := 0) (wn_none rfl) rfl rfl rfl rfl ts158 rfl (tvC_len _) (tvC_one (hT.txs _ (tvAt_mem (i := i) (by omega)))) hp rfl (by first | exact Nat.le_of_ble_eq_true rfl | (rw [tvC_len]; decide)) (splice_all _ _ (by first | rw [tvC_len, tvC_len] | (rw [tvC_len]; rfl))) ?_
   intro w hp
   refine GL_nil ?_
   refine GW_seq ?_
   refine GW_region ?_
   refine GL_rd (wn_none rfl) rfl (rd_field rfl rfl fa158_1 _ rfl) ?_
   refine GL_rd (wn_none rfl) rfl (rd_load rfl rfl Try.underlying3 rfl ((cell_of_cells (hp.get 0 rfl) _).trans (tv_size _))) ?_
   refine GL_rd (wn_none rfl) rfl (rd_bin rfl rfl rfl bo_gtr) ?_
   refine GL_rd (v := .bool _) (wn_none rfl) rfl (rd_move rfl rfl) ?_
   refine GL_split (t := 20) (b := _) rfl ?_ ?_
   ·intro hb2; (try simp only [decide_eq_true_eq, decide_eq_false_iff_not, Bool.not_eq_true', Bool.not_eq_false', Bool.not_eq_eq_eq_not, Bool.not_true, Bool.not_false, Int.not_lt, Int.not_le] at hb2)
    have h1 := hb2
    refine GL_rd (wn_on rfl rfl rfl rfl) rfl (rd_field rfl rfl fa158_0 _ rfl) ?_
    refine GL_rd (wn_on rfl rfl rfl rfl) rfl (rd_loadN (L := bys _) rfl rfl Try.underlying66 rfl ts66 (tv_alen _) (fun jq u hj => (cell_of_cells (hp.get 0 rfl) _).trans (tv_addr hj))) ?_
    refine GL_rd (wn_on rfl rfl rfl rfl) rfl (rd_loadC rfl rfl Try.underlying66 rfl ts66 (hp.get 1 rfl) (by first | (rw [bys_length]; first | exact a32_len _) | rfl | simp [bys_length, *])) ?_
    refine GL_rd (wn_on rfl rfl rfl rfl) rfl (rd_bin rfl rfl rfl (bo_arrB Try.underlying66 Try.underlying5 ts5 (by kernel_rfl) (tvAt I.T i).1.addr.2 a.2).1) ?_
    refine GL_rd (v := .bool _) (wn_none rfl) rfl (rd_pickT rfl rfl rfl) ?_
    refine GL_nil ?_
    refine GW_cond rfl (fun hb3 => ?_) (fun hb3 => ?_)
    ·(try simp only [decide_eq_true_eq, decide_eq_false_iff_not, Bool.not_eq_true', Bool.not_eq_false', Bool.not_eq_eq_eq_not, Bool.not_true, Bool.not_false, Int.not_lt, Int.not_le] at hb3)
     have h2 : (tvAt I.T i).1.addr = a := Subtype.ext hb3
     refine GW_seq ?_
     refine GW_region ?_
     refine GL_rd (v := .int _ _) (wn_none rfl) rfl (rd_move rfl rfl) ?_
     refine GL_rd (v := .int _ _) (wn_none rfl) rfl (rd_assign rfl rfl) ?_
     refine GL_nil ?_
     refine GW_ret ?_
     exact ⟨_, res1 Try.results79 (rv_tmp (v := .int _ _) rfl rfl), by rw [txF_at (by omega) ⟨h1, h2⟩ hok], hp.mods⟩
    ·(try simp only [decide_eq_true_eq, decide_eq_false_iff_not, Bool.not_eq_true', Bool.not_eq_false', Bool.not_eq_eq_eq_not, Bool.not_true, Bool.not_false, Int.not_lt, Int.not_le] at hb3)
     have hno : ¬ (0 < (tvAt I.T i).1.size ∧ (tvAt I.T i).1.addr = a) := fun q => hb3 (by rw [q.2])
     refine GW_skip ?_
     refine GW_region ?_
     refine GL_rd (wn_none rfl) rfl (rd_bin rfl rfl rfl (bo_add64 (by omega))) ?_
     refine GL_rd (v := .int _ _) (wn_none rfl) rfl (rd_move rfl rfl) ?_
     refine GL_nil ?_
     have hp := ((hp.front 1 rfl).take 1)
     exact ihL0 (i + 1, _) _ _ (by simp only []; omega) ⟨_, slots4 rfl rfl rfl rfl, hp, by omega, htx, fun j hj => by rcases Nat.lt_succ_iff_lt_or_eq.1 hj with h | h; exact hok j h; subst h; exact hno⟩
   ·intro hb2; (try simp only [decide_eq_true_eq, decide_eq_false_iff_not, Bool.not_eq_true', Bool.not_eq_false', Bool.not_eq_eq_eq_not, Bool.not_true, Bool.not_false, Int.not_lt, Int.not_le] at hb2)
    have hno : ¬ (0 < (tvAt I.T i).1.size ∧ (tvAt I.T i).1.addr = a) := fun q => by have := hb2; omega
    refine GL_pass (nw_off rfl rfl rfl rfl rfl) rfl ?_
    refine GL_pass (nw_off rfl rfl rfl rfl rfl) rfl ?_
    refine GL_pass (nw_off rfl rfl rfl rfl rfl) rfl ?_
    refine GL_pass (nw_off rfl rfl rfl rfl rfl) rfl ?_
    refine GL_rd (v := .bool _) (wn_none rfl) rfl (rd_pickF rfl rfl rfl) ?_
    refine GL_nil ?_
    refine GW_false rfl ?_
    refine GW_skip ?_
    refine GW_region ?_
    refine GL_rd (wn_none rfl) rfl (rd_bin rfl rfl rfl (bo_add64 (by omega))) ?_
    refine GL_rd (v := .int _ _) (wn_none rfl) rfl (rd_move rfl rfl) ?_
    refine GL_nil ?_
    have hp := ((hp.front 1 rfl).take 1)
    exact ihL0 (i + 1, _) _ _ (by simp only []; omega) ⟨_, slots4 rfl rfl rfl rfl, hp, by omega, htx, fun j hj => by rcases Nat.lt_succ_iff_lt_or_eq.1 hj with h | h; exact hok j h; subst h; exact hno⟩
  ·(try simp only [decide_eq_true_eq, decide_eq_false_iff_not, Bool.not_eq_true', Bool.not_eq_false', Bool.not_eq_eq_eq_not, Bool.not_true, Bool.not_false, Int.not_lt, Int.not_le] at hb)
   refine GW_exit ?_
   refine GW_seq ?_
   refine GW_region ?_
   refine GL_rd (v := .int _ _) (wn_none rfl) rfl (rd_assign rfl rfl) ?_
   refine GL_nil ?_
   refine GW_ret ?_
   exact ⟨_, res1 Try.results79 (rv_tmp (v := .int _ _) rfl rfl), by rw [txF_no (fun j hj => hok j (by omega))], hp.mods⟩
 ·refine ⟨_, slots4 rfl rfl rfl rfl, hp, Nat.zero_le _, htx, fun j hj => absurd hj (by omega)⟩
end Go.Proofs.Ytpagpmioopaciaa
