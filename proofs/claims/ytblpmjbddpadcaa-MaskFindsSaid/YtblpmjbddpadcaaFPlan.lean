/- Walks of functions of the program. -/
import Derived.Test.YtblpmjbddpadcaaTypes
import Derived.Test.YtblpmjbddpadcaaMaskS
set_option linter.unusedVariables false
set_option linter.unusedSimpArgs false
namespace Go.Proofs.Ytblpmjbddpadcaa
open Go.Mo Go.RowKit
theorem plan_Check (p : Pl) (w0 : World) : Does Try.prog 86 #[.agg ⟨plC p⟩] w0 fun v w' => v = .int .i64 (planC p) ∧ Hp w0 [] w' [] := by
 refine does_of (l := [.agg ⟨plC p⟩]) Try.func86 (by kernel_rfl) rfl Try.ntmps86 rfl rfl ?_
 have hp := Hp.refl w0 []
 refine GW_seq ?_
 refine GW_region ?_
 refine GL_box (wn_none rfl) rfl rfl rfl rfl hp ?_
 intro g w hp
 refine GL_rd (v := .int _ _) (wn_none rfl) rfl (rd_assign rfl rfl) ?_
 refine GL_nil ?_
 refine GW_seq ?_
 refine GW_seq ?_
 refine GW_region ?_
 refine GL_rd (wn_none rfl) rfl (rd_field rfl rfl fa23_0 _ rfl) ?_
 refine GL_rd (wn_none rfl) rfl (rd_load rfl rfl Try.underlying3 rfl ((cell_of_cells (hp.get 0 rfl) _).trans rfl)) ?_
 refine GL_rd (wn_none rfl) rfl (rd_buildA (L := [.int .i64 p.s, .int .i64 200]) rfl tz188 Try.underlying188 ts3 (by kernel_rfl)) ?_
 refine GL_rd (wn_none rfl) rfl (rd_field rfl rfl fa23_1 _ rfl) ?_
 refine GL_rd (wn_none rfl) rfl (rd_load rfl rfl Try.underlying3 rfl ((cell_of_cells (hp.get 0 rfl) _).trans rfl)) ?_
 refine GL_rd (wn_none rfl) rfl (rd_buildA (L := [.int .i64 p.t, .int .i64 40]) rfl tz188 Try.underlying188 ts3 (by kernel_rfl)) ?_
 refine GL_rd (wn_none rfl) rfl (rd_field rfl rfl fa23_2 _ rfl) ?_
 refine GL_rd (wn_none rfl) rfl (rd_load rfl rfl Try.underlying3 rfl ((cell_of_cells (hp.get 0 rfl) _).trans rfl)) ?_
 refine GL_rd (wn_none rfl) rfl (rd_buildA (L := [.int .i64 p.c, .int .i64 40]) rfl tz188 Try.underlying188 ts3 (by kernel_rfl)) ?_
 refine GL_rd (wn_none rfl) rfl (rd_field rfl rfl fa23_3 _ rfl) ?_
 refine GL_rd (wn_none rfl) rfl (rd_load rfl rfl Try.underlying3 rfl ((cell_of_cells (hp.get 0 rfl) _).trans rfl)) ?_
 refine GL_rd (wn_none rfl) rfl (rd_buildA (L := [.int .i64 p.a, .int .i64 80]) rfl tz188 Try.underlying188 ts3 (by kernel_rfl)) ?_
 refine GL_rd (wn_none rfl) rfl (rd_buildA (L := [.int .i64 p.s, .int .i64 200, .int .i64 p.t, .int .i64 40, .int .i64 p.c, .int .i64 40, .int .i64 p.a, .int .i64 80]) rfl tz189 Try.underlying189 ts188 (by kernel_rfl)) ?_
 refine GL_rd (v := .int _ _) (wn_none rfl) rfl (rd_move rfl rfl) ?_
 refine GL_nil ?_
 refine GW_block ?_
 refine GW_loop ?_
 refine Lp_ind (α := Nat) (fun a_0 f_0 w' => match a_0 with | i => ∃ fz, f_0 = (upd (upd fz 17 (.agg ⟨[.int .i64 p.s, .int .i64 200, .int .i64 p.t, .int .i64 40, .int .i64 p.c, .int .i64 40, .int .i64 p.a, .int .i64 80]⟩)) 18 (.int .i64 (i : Int))) ∧ Hp w0 [] w' [] ∧ (i ≤ 4) ∧ ((0 < i → 1 ≤ p.s ∧ p.s ≤ 200) ∧ (1 < i → 1 ≤ p.t ∧ p.t ≤ 40) ∧ (2 < i → 1 ≤ p.c ∧ p.c ≤ 40) ∧ (3 < i → 1 ≤ p.a ∧ p.a ≤ 80))) (fun a_0 => match a_0 with | i => 4 - i) ?_ 0 _ _ ?_
 ·rintro i f wz ⟨fz, rfl, hp, hi0, hall⟩ ihL0
  refine Lp_round ?_
  refine GW_seq ?_
  refine GW_region ?_
  refine GL_rd (wn_none rfl) rfl (rd_bin rfl rfl rfl bo_lss) ?_
  refine GL_nil ?_
  refine GW_seq ?_
  refine GW_cond rfl (fun hb => ?_) (fun hb => ?_)
  ·(try simp only [decide_eq_true_eq, decide_eq_false_iff_not, Bool.not_eq_true', Bool.not_eq_false', Bool.not_eq_eq_eq_not, Bool.not_true, Bool.not_false, Int.not_lt, Int.not_le] at hb)
   refine GW_skip ?_
   refine GW_seq ?_
   refine GW_block ?_
   refine GW_seq ?_
   rcases (show i = 0 ∨ i = 1 ∨ i = 2 ∨ i = 3 by omega) with rfl | rfl | rfl | rfl
   ·
    refine GW_region ?_
    refine GL_rd (wn_none rfl) rfl (rd_indexG (j := 0) (L' := [.int .i64 p.s, .int .i64 200]) rfl rfl rfl Try.underlying189 Try.underlying188 rfl ts188 rfl (by decide) rfl) ?_
    refine GL_alloc (wn_none rfl) rfl rfl tz188 rfl hp ?_
    intro g2 w hp
    refine GL_store (i := 0) (wn_none rfl) rfl rfl rfl rfl ts188 rfl rfl (oneC rfl (one1 rfl)) hp rfl (by first | exact Nat.le_of_ble_eq_true rfl | simp [bys_length, *]) (show splice _ _ _ = ([.int .i64 p.s, .int .i64 200] : List Value) from rfl) ?_
    intro w hp
    refine GL_nil ?_
    refine GW_seq ?_
    refine GW_region ?_
    refine GL_rd (wn_none rfl) rfl (rd_indexA (j := 0) rfl rfl rfl Try.underlying188 ts3 rfl (by omega) _ rfl) ?_
    refine GL_rd (wn_none rfl) rfl (rd_load rfl rfl Try.underlying3 rfl ((cell_of_cells (hp.get 0 rfl) _).trans rfl)) ?_
    refine GL_rd (wn_none rfl) rfl (rd_bin rfl rfl rfl bo_lss) ?_
    refine GL_rd (v := .bool _) (wn_none rfl) rfl (rd_move rfl rfl) ?_
    refine GL_split (t := 24) (b := _) rfl ?_ ?_
    ·intro hb2; (try simp only [decide_eq_true_eq, decide_eq_false_iff_not, Bool.not_eq_true', Bool.not_eq_false', Bool.not_eq_eq_eq_not, Bool.not_true, Bool.not_false, Int.not_lt, Int.not_le] at hb2)
     refine GL_pass (nw_off rfl rfl rfl rfl rfl) rfl ?_
     refine GL_pass (nw_off rfl rfl rfl rfl rfl) rfl ?_
     refine GL_pass (nw_off rfl rfl rfl rfl rfl) rfl ?_
     refine GL_pass (nw_off rfl rfl rfl rfl rfl) rfl ?_
     refine GL_pass (nw_off rfl rfl rfl rfl rfl) rfl ?_
     refine GL_rd (v := .bool _) (wn_none rfl) rfl (rd_pickT rfl rfl rfl) ?_
     refine GL_nil ?_
     refine GW_true rfl ?_
     refine GW_seq ?_
     refine GW_region ?_
     refine GL_rd (v := .int _ _) (wn_none rfl) rfl (rd_assign rfl rfl) ?_
     refine GL_nil ?_
     refine GW_ret ?_
     exact ⟨_, res1 Try.results86 (rv_tmp (v := .int _ _) rfl rfl), by rw [planC_no (by omega)], hp.mods⟩
    ·intro hb2; (try simp only [decide_eq_true_eq, decide_eq_false_iff_not, Bool.not_eq_true', Bool.not_eq_false', Bool.not_eq_eq_eq_not, Bool.not_true, Bool.not_false, Int.not_lt, Int.not_le] at hb2)
     have h1 := hb2
     refine GL_rd (wn_on rfl rfl rfl rfl) rfl (rd_indexA (j := 0) rfl rfl rfl Try.underlying188 ts3 rfl (by omega) _ rfl) ?_
     refine GL_rd (wn_on rfl rfl rfl rfl) rfl (rd_load rfl rfl Try.underlying3 rfl ((cell_of_cells (hp.get 0 rfl) _).trans rfl)) ?_
     refine GL_rd (wn_on rfl rfl rfl rfl) rfl (rd_indexA (j := 1) rfl rfl rfl Try.underlying188 ts3 rfl (by omega) _ rfl) ?_
     refine GL_rd (wn_on rfl rfl rfl rfl) rfl (rd_load rfl rfl Try.underlying3 rfl ((cell_of_cells (hp.get 0 rfl) _).trans rfl)) ?_
     refine GL_rd (wn_on rfl rfl rfl rfl) rfl (rd_bin rfl rfl rfl bo_gtr) ?_
     refine GL_rd (v := .bool _) (wn_none rfl) rfl (rd_pickF rfl rfl rfl) ?_
     refine GL_nil ?_
     refine GW_cond rfl (fun hb3 => ?_) (fun hb3 => ?_)
     ·(try simp only [decide_eq_true_eq, decide_eq_false_iff_not, Bool.not_eq_true', Bool.not_eq_false', Bool.not_eq_eq_eq_not, Bool.not_true, Bool.not_false, Int.not_lt, Int.not_le] at hb3)
      refine GW_seq ?_
      refine GW_region ?_
      refine GL_rd (v := .int _ _) (wn_none rfl) rfl (rd_assign rfl rfl) ?_
      refine GL_nil ?_
      refine GW_ret ?_
      exact ⟨_, res1 Try.results86 (rv_tmp (v := .int _ _) rfl rfl), by rw [planC_no (by omega)], hp.mods⟩
     ·(try simp only [decide_eq_true_eq, decide_eq_false_iff_not, Bool.not_eq_true', Bool.not_eq_false', Bool.not_eq_eq_eq_not, Bool.not_true, Bool.not_false, Int.not_lt, Int.not_le] at hb3)
      have h2 := hb3
      refine GW_skip ?_
      refine GW_region ?_
      refine GL_rd (wn_none rfl) rfl (rd_bin rfl rfl rfl (bo_add64 (by omega))) ?_
      refine GL_rd (v := .int _ _) (wn_none rfl) rfl (rd_move rfl rfl) ?_
      refine GL_nil ?_
      have hp := hp.mods
      exact ihL0 (1) _ _ (by simp only []; omega) ⟨_, slots2 rfl rfl, hp, by omega, ⟨by omega, by omega, by omega, by omega⟩⟩
   ·
    refine GW_region ?_
    refine GL_rd (wn_none rfl) rfl (rd_indexG (j := 1) (L' := [.int .i64 p.t, .int .i64 40]) rfl rfl rfl Try.underlying189 Try.underlying188 rfl ts188 rfl (by decide) rfl) ?_
    refine GL_alloc (wn_none rfl) rfl rfl tz188 rfl hp ?_
    intro g3 w hp
    refine GL_store (i := 0) (wn_none rfl) rfl rfl rfl rfl ts188 rfl rfl (oneC rfl (one1 rfl)) hp rfl (by first | exact Nat.le_of_ble_eq_true rfl | simp [bys_length, *]) (show splice _ _ _ = ([.int .i64 p.t, .int .i64 40] : List Value) from rfl) ?_
    intro w hp
    refine GL_nil ?_
    refine GW_seq ?_
    refine GW_region ?_
    refine GL_rd (wn_none rfl) rfl (rd_indexA (j := 0) rfl rfl rfl Try.underlying188 ts3 rfl (by omega) _ rfl) ?_
    refine GL_rd (wn_none rfl) rfl (rd_load rfl rfl Try.underlying3 rfl ((cell_of_cells (hp.get 0 rfl) _).trans rfl)) ?_
    refine GL_rd (wn_none rfl) rfl (rd_bin rfl rfl rfl bo_lss) ?_
    refine GL_rd (v := .bool _) (wn_none rfl) rfl (rd_move rfl rfl) ?_
    refine GL_split (t := 24) (b := _) rfl ?_ ?_
    ·intro hb4; (try simp only [decide_eq_true_eq, decide_eq_false_iff_not, Bool.not_eq_true', Bool.not_eq_false', Bool.not_eq_eq_eq_not, Bool.not_true, Bool.not_false, Int.not_lt, Int.not_le] at hb4)
     refine GL_pass (nw_off rfl rfl rfl rfl rfl) rfl ?_
     refine GL_pass (nw_off rfl rfl rfl rfl rfl) rfl ?_
     refine GL_pass (nw_off rfl rfl rfl rfl rfl) rfl ?_
     refine GL_pass (nw_off rfl rfl rfl rfl rfl) rfl ?_
     refine GL_pass (nw_off rfl rfl rfl rfl rfl) rfl ?_
     refine GL_rd (v := .bool _) (wn_none rfl) rfl (rd_pickT rfl rfl rfl) ?_
     refine GL_nil ?_
     refine GW_true rfl ?_
     refine GW_seq ?_
     refine GW_region ?_
     refine GL_rd (v := .int _ _) (wn_none rfl) rfl (rd_assign rfl rfl) ?_
     refine GL_nil ?_
     refine GW_ret ?_
     exact ⟨_, res1 Try.results86 (rv_tmp (v := .int _ _) rfl rfl), by rw [planC_no (by omega)], hp.mods⟩
    ·intro hb4; (try simp only [decide_eq_true_eq, decide_eq_false_iff_not, Bool.not_eq_true', Bool.not_eq_false', Bool.not_eq_eq_eq_not, Bool.not_true, Bool.not_false, Int.not_lt, Int.not_le] at hb4)
     have h1 := hb4
     refine GL_rd (wn_on rfl rfl rfl rfl) rfl (rd_indexA (j := 0) rfl rfl rfl Try.underlying188 ts3 rfl (by omega) _ rfl) ?_
     refine GL_rd (wn_on rfl rfl rfl rfl) rfl (rd_load rfl rfl Try.underlying3 rfl ((cell_of_cells (hp.get 0 rfl) _).trans rfl)) ?_
     refine GL_rd (wn_on rfl rfl rfl rfl) rfl (rd_indexA (j := 1) rfl rfl rfl Try.underlying188 ts3 rfl (by omega) _ rfl) ?_
     refine GL_rd (wn_on rfl rfl rfl rfl) rfl (rd_load rfl rfl Try.underlying3 rfl ((cell_of_cells (hp.get 0 rfl) _).trans rfl)) ?_
     refine GL_rd (wn_on rfl rfl rfl rfl) rfl (rd_bin rfl rfl rfl bo_gtr) ?_
     refine GL_rd (v := .bool _) (wn_none rfl) rfl (rd_pickF rfl rfl rfl) ?_
     refine GL_nil ?_
     refine GW_cond rfl (fun hb5 => ?_) (fun hb5 => ?_)
     ·(try simp only [decide_eq_true_eq, decide_eq_false_iff_not, Bool.not_eq_true', Bool.not_eq_false', Bool.not_eq_eq_eq_not, Bool.not_true, Bool.not_false, Int.not_lt, Int.not_le] at hb5)
      refine GW_seq ?_
      refine GW_region ?_
      refine GL_rd (v := .int _ _) (wn_none rfl) rfl (rd_assign rfl rfl) ?_
      refine GL_nil ?_
      refine GW_ret ?_
      exact ⟨_, res1 Try.results86 (rv_tmp (v := .int _ _) rfl rfl), by rw [planC_no (by omega)], hp.mods⟩
     ·(try simp only [decide_eq_true_eq, decide_eq_false_iff_not, Bool.not_eq_true', Bool.not_eq_false', Bool.not_eq_eq_eq_not, Bool.not_true, Bool.not_false, Int.not_lt, Int.not_le] at hb5)
      have h2 := hb5
      refine GW_skip ?_
      refine GW_region ?_
      refine GL_rd (wn_none rfl) rfl (rd_bin rfl rfl rfl (bo_add64 (by omega))) ?_
      refine GL_rd (v := .int _ _) (wn_none rfl) rfl (rd_move rfl rfl) ?_
      refine GL_nil ?_
      have hp := hp.mods
      exact ihL0 (2) _ _ (by simp only []; omega) ⟨_, slots2 rfl rfl, hp, by omega, ⟨by omega, by omega, by omega, by omega⟩⟩
   ·
    refine GW_region ?_
    refine GL_rd (wn_none rfl) rfl (rd_indexG (j := 2) (L' := [.int .i64 p.c, .int .i64 40]) rfl rfl rfl Try.underlying189 Try.underlying188 rfl ts188 rfl (by decide) rfl) ?_
    refine GL_alloc (wn_none rfl) rfl rfl tz188 rfl hp ?_
    intro g4 w hp
    refine GL_store (i := 0) (wn_none rfl) rfl rfl rfl rfl ts188 rfl rfl (oneC rfl (one1 rfl)) hp rfl (by first | exact Nat.le_of_ble_eq_true rfl | simp [bys_length, *]) (show splice _ _ _ = ([.int .i64 p.c, .int .i64 40] : List Value) from rfl) ?_
    intro w hp
    refine GL_nil ?_
    refine GW_seq ?_
    refine GW_region ?_
    refine GL_rd (wn_none rfl) rfl (rd_indexA (j := 0) rfl rfl rfl Try.underlying188 ts3 rfl (by omega) _ rfl) ?_
    refine GL_rd (wn_none rfl) rfl (rd_load rfl rfl Try.underlying3 rfl ((cell_of_cells (hp.get 0 rfl) _).trans rfl)) ?_
    refine GL_rd (wn_none rfl) rfl (rd_bin rfl rfl rfl bo_lss) ?_
    refine GL_rd (v := .bool _) (wn_none rfl) rfl (rd_move rfl rfl) ?_
    refine GL_split (t := 24) (b := _) rfl ?_ ?_
    ·intro hb6; (try simp only [decide_eq_true_eq, decide_eq_false_iff_not, Bool.not_eq_true', Bool.not_eq_false', Bool.not_eq_eq_eq_not, Bool.not_true, Bool.not_false, Int.not_lt, Int.not_le] at hb6)
     refine GL_pass (nw_off rfl rfl rfl rfl rfl) rfl ?_
     refine GL_pass (nw_off rfl rfl rfl rfl rfl) rfl ?_
     refine GL_pass (nw_off rfl rfl rfl rfl rfl) rfl ?_
     refine GL_pass (nw_off rfl rfl rfl rfl rfl) rfl ?_
     refine GL_pass (nw_off rfl rfl rfl rfl rfl) rfl ?_
     refine GL_rd (v := .bool _) (wn_none rfl) rfl (rd_pickT rfl rfl rfl) ?_
     refine GL_nil ?_
     refine GW_true rfl ?_
     refine GW_seq ?_
     refine GW_region ?_
     refine GL_rd (v := .int _ _) (wn_none rfl) rfl (rd_assign rfl rfl) ?_
     refine GL_nil ?_
     refine GW_ret ?_
     exact ⟨_, res1 Try.results86 (rv_tmp (v := .int _ _) rfl rfl), by rw [planC_no (by omega)], hp.mods⟩
    ·intro hb6; (try simp only [decide_eq_true_eq, decide_eq_false_iff_not, Bool.not_eq_true', Bool.not_eq_false', Bool.not_eq_eq_eq_not, Bool.not_true, Bool.not_false, Int.not_lt, Int.not_le] at hb6)
     have h1 := hb6
     refine GL_rd (wn_on rfl rfl rfl rfl) rfl (rd_indexA (j := 0) rfl rfl rfl Try.underlying188 ts3 rfl (by omega) _ rfl) ?_
     refine GL_rd (wn_on rfl rfl rfl rfl) rfl (rd_load rfl rfl Try.underlying3 rfl ((cell_of_cells (hp.get 0 rfl) _).trans rfl)) ?_
     refine GL_rd (wn_on rfl rfl rfl rfl) rfl (rd_indexA (j := 1) rfl rfl rfl Try.underlying188 ts3 rfl (by omega) _ rfl) ?_
     refine GL_rd (wn_on rfl rfl rfl rfl) rfl (rd_load rfl rfl Try.underlying3 rfl ((cell_of_cells (hp.get 0 rfl) _).trans rfl)) ?_
     refine GL_rd (wn_on rfl rfl rfl rfl) rfl (rd_bin rfl rfl rfl bo_gtr) ?_
     refine GL_rd (v := .bool _) (wn_none rfl) rfl (rd_pickF rfl rfl rfl) ?_
     refine GL_nil ?_
     refine GW_cond rfl (fun hb7 => ?_) (fun hb7 => ?_)
     ·(try simp only [decide_eq_true_eq, decide_eq_false_iff_not, Bool.not_eq_true', Bool.not_eq_false', Bool.not_eq_eq_eq_not, Bool.not_true, Bool.not_false, Int.not_lt, Int.not_le] at hb7)
      refine GW_seq ?_
      refine GW_region ?_
      refine GL_rd (v := .int _ _) (wn_none rfl) rfl (rd_assign rfl rfl) ?_
      refine GL_nil ?_
      refine GW_ret ?_
      exact ⟨_, res1 Try.results86 (rv_tmp (v := .int _ _) rfl rfl), by rw [planC_no (by omega)], hp.mods⟩
     ·(try simp only [decide_eq_true_eq, decide_eq_false_iff_not, Bool.not_eq_true', Bool.not_eq_false', Bool.not_eq_eq_eq_not, Bool.not_true, Bool.not_false, Int.not_lt, Int.not_le] at hb7)
      have h2 := hb7
      refine GW_skip ?_
      refine GW_region ?_
      refine GL_rd (wn_none rfl) rfl (rd_bin rfl rfl rfl (bo_add64 (by omega))) ?_
      refine GL_rd (v := .int _ _) (wn_none rfl) rfl (rd_move rfl rfl) ?_
      refine GL_nil ?_
      have hp := hp.mods
      exact ihL0 (3) _ _ (by simp only []; omega) ⟨_, slots2 rfl rfl, hp, by omega, ⟨by omega, by omega, by omega, by omega⟩⟩
   ·
    refine GW_region ?_
    refine GL_rd (wn_none rfl) rfl (rd_indexG (j := 3) (L' := [.int .i64 p.a, .int .i64 80]) rfl rfl rfl Try.underlying189 Try.underlying188 rfl ts188 rfl (by decide) rfl) ?_
    refine GL_alloc (wn_none rfl) rfl rfl tz188 rfl hp ?_
    intro g5 w hp
    refine GL_store (i := 0) (wn_none rfl) rfl rfl rfl rfl ts188 rfl rfl (oneC rfl (one1 rfl)) hp rfl (by first | exact Nat.le_of_ble_eq_true rfl | simp [bys_length, *]) (show splice _ _ _ = ([.int .i64 p.a, .int .i64 80] : List Value) from rfl) ?_
    intro w hp
    refine GL_nil ?_
    refine GW_seq ?_
    refine GW_region ?_
    refine GL_rd (wn_none rfl) rfl (rd_indexA (j := 0) rfl rfl rfl Try.underlying188 ts3 rfl (by omega) _ rfl) ?_
    refine GL_rd (wn_none rfl) rfl (rd_load rfl rfl Try.underlying3 rfl ((cell_of_cells (hp.get 0 rfl) _).trans rfl)) ?_
    refine GL_rd (wn_none rfl) rfl (rd_bin rfl rfl rfl bo_lss) ?_
    refine GL_rd (v := .bool _) (wn_none rfl) rfl (rd_move rfl rfl) ?_
    refine GL_split (t := 24) (b := _) rfl ?_ ?_
    ·intro hb8; (try simp only [decide_eq_true_eq, decide_eq_false_iff_not, Bool.not_eq_true', Bool.not_eq_false', Bool.not_eq_eq_eq_not, Bool.not_true, Bool.not_false, Int.not_lt, Int.not_le] at hb8)
     refine GL_pass (nw_off rfl rfl rfl rfl rfl) rfl ?_
     refine GL_pass (nw_off rfl rfl rfl rfl rfl) rfl ?_
     refine GL_pass (nw_off rfl rfl rfl rfl rfl) rfl ?_
     refine GL_pass (nw_off rfl rfl rfl rfl rfl) rfl ?_
     refine GL_pass (nw_off rfl rfl rfl rfl rfl) rfl ?_
     refine GL_rd (v := .bool _) (wn_none rfl) rfl (rd_pickT rfl rfl rfl) ?_
     refine GL_nil ?_
     refine GW_true rfl ?_
     refine GW_seq ?_
     refine GW_region ?_
     refine GL_rd (v := .int _ _) (wn_none rfl) rfl (rd_assign rfl rfl) ?_
     refine GL_nil ?_
     refine GW_ret ?_
     exact ⟨_, res1 Try.results86 (rv_tmp (v := .int _ _) rfl rfl), by rw [planC_no (by omega)], hp.mods⟩
    ·intro hb8; (try simp only [decide_eq_true_eq, decide_eq_false_iff_not, Bool.not_eq_true', Bool.not_eq_false', Bool.not_eq_eq_eq_not, Bool.not_true, Bool.not_false, Int.not_lt, Int.not_le] at hb8)
     have h1 := hb8
     refine GL_rd (wn_on rfl rfl rfl rfl) rfl (rd_indexA (j := 0) rfl rfl rfl Try.underlying188 ts3 rfl (by omega) _ rfl) ?_
     refine GL_rd (wn_on rfl rfl rfl rfl) rfl (rd_load rfl rfl Try.underlying3 rfl ((cell_of_cells (hp.get 0 rfl) _).trans rfl)) ?_
     refine GL_rd (wn_on rfl rfl rfl rfl) rfl (rd_indexA (j := 1) rfl rfl rfl Try.underlying188 ts3 rfl (by omega) _ rfl) ?_
     refine GL_rd (wn_on rfl rfl rfl rfl) rfl (rd_load rfl rfl Try.underlying3 rfl ((cell_of_cells (hp.get 0 rfl) _).trans rfl)) ?_
     refine GL_rd (wn_on rfl rfl rfl rfl) rfl (rd_bin rfl rfl rfl bo_gtr) ?_
     refine GL_rd (v := .bool _) (wn_none rfl) rfl (rd_pickF rfl rfl rfl) ?_
     refine GL_nil ?_
     refine GW_cond rfl (fun hb9 => ?_) (fun hb9 => ?_)
     ·(try simp only [decide_eq_true_eq, decide_eq_false_iff_not, Bool.not_eq_true', Bool.not_eq_false', Bool.not_eq_eq_eq_not, Bool.not_true, Bool.not_false, Int.not_lt, Int.not_le] at hb9)
      refine GW_seq ?_
      refine GW_region ?_
      refine GL_rd (v := .int _ _) (wn_none rfl) rfl (rd_assign rfl rfl) ?_
      refine GL_nil ?_
      refine GW_ret ?_
      exact ⟨_, res1 Try.results86 (rv_tmp (v := .int _ _) rfl rfl), by rw [planC_no (by omega)], hp.mods⟩
     ·(try simp only [decide_eq_true_eq, decide_eq_false_iff_not, Bool.not_eq_true', Bool.not_eq_false', Bool.not_eq_eq_eq_not, Bool.not_true, Bool.not_false, Int.not_lt, Int.not_le] at hb9)
      have h2 := hb9
      refine GW_skip ?_
      refine GW_region ?_
      refine GL_rd (wn_none rfl) rfl (rd_bin rfl rfl rfl (bo_add64 (by omega))) ?_
      refine GL_rd (v := .int _ _) (wn_none rfl) rfl (rd_move rfl rfl) ?_
      refine GL_nil ?_
      have hp := hp.mods
      exact ihL0 (4) _ _ (by simp only []; omega) ⟨_, slots2 rfl rfl, hp, by omega, ⟨by omega, by omega, by omega, by omega⟩⟩
  ·(try simp only [decide_eq_true_eq, decide_eq_false_iff_not, Bool.not_eq_true', Bool.not_eq_false', Bool.not_eq_eq_eq_not, Bool.not_true, Bool.not_false, Int.not_lt, Int.not_le] at hb)
   obtain rfl : i = 4 := by omega
   refine GW_exit ?_
   refine GW_seq ?_
   refine GW_region ?_
   refine GL_rd (v := .int _ _) (wn_none rfl) rfl (rd_assign rfl rfl) ?_
   refine GL_nil ?_
   refine GW_ret ?_
   exact ⟨_, res1 Try.results86 (rv_tmp (v := .int _ _) rfl rfl), by rw [planC_yes ⟨hall.1 (by decide), hall.2.1 (by decide), hall.2.2.1 (by decide), hall.2.2.2 (by decide)⟩], hp⟩
 ·have hp := hp.mods
  refine ⟨_, slots2 rfl rfl, hp, by decide, ⟨by omega, by omega, by omega, by omega⟩⟩

theorem plan_Of (p : Pl) (w0 : World) : Does Try.prog 17 #[.agg ⟨plC p⟩] w0 fun v w' => v = .tuple #[.agg ⟨layV p⟩, .int .i64 (planC p)] ∧ Hp w0 [] w' [] := by
 refine does_of (l := [.agg ⟨plC p⟩]) Try.func17 (by kernel_rfl) rfl Try.ntmps17 rfl rfl ?_
 have hp := Hp.refl w0 []
 refine GW_seq ?_
 refine GW_region ?_
 refine GL_box (wn_none rfl) rfl rfl rfl rfl hp ?_
 intro g w hp
 refine GL_alloc (wn_none rfl) rfl rfl tz28 rfl hp ?_
 intro g2 w hp
 refine GL_rd (v := .int _ _) (wn_none rfl) rfl (rd_assign rfl rfl) ?_
 refine GL_nil ?_
 refine GW_seq ?_
 refine GW_seq ?_
 refine GW_region ?_
 refine GL_rd (wn_none rfl) rfl (rd_loadC rfl rfl Try.underlying23 rfl ts23 (hp.get 1 rfl) (by first | rfl | simp [bys_length, *])) ?_
 refine GL_call (wn_none rfl) rfl rfl (plan_Check p _) rfl ?_
 rintro _ w ⟨rfl, hk⟩
 have hp := hp.comp hk
 refine GL_rd (v := .int _ _) (wn_none rfl) rfl (rd_assign rfl rfl) ?_
 refine GL_nil ?_
 refine GW_seq ?_
 refine GW_region ?_
 refine GL_rd (v := .int _ _) (wn_none rfl) rfl (rd_move rfl rfl) ?_
 refine GL_rd (wn_none rfl) rfl (rd_bin rfl rfl rfl bo_neq) ?_
 refine GL_nil ?_
 refine GW_cond rfl (fun hb => ?_) (fun hb => ?_)
 ·(try simp only [decide_eq_true_eq, decide_eq_false_iff_not, Bool.not_eq_true', Bool.not_eq_false', Bool.not_eq_eq_eq_not, Bool.not_true, Bool.not_false, Int.not_lt, Int.not_le] at hb)
  have hc : planC p = 2 := by have := hb; revert this; unfold planC; cases planB p <;> simp
  refine GW_seq ?_
  refine GW_region ?_
  refine GL_rd (wn_none rfl) rfl (rd_buildS (L := layZ) rfl tz28 pl28 (by kernel_rfl)) ?_
  refine GL_rd (v := .int _ _) (wn_none rfl) rfl (rd_move rfl rfl) ?_
  refine GL_store (i := 0) (wn_none rfl) rfl rfl rfl rfl ts28 rfl rfl (oneC rfl (oneC rfl (oneC rfl (oneC rfl (oneC rfl (oneC rfl (oneC rfl (oneC rfl (oneC rfl (oneC rfl (oneC rfl (oneC rfl (oneC rfl (oneC rfl one0)))))))))))))) hp rfl (by first | exact Nat.le_of_ble_eq_true rfl | simp [bys_length, *]) (show splice _ _ _ = (layZ : List Value) from rfl) ?_
  intro w hp
  refine GL_rd (v := .int _ _) (wn_none rfl) rfl (rd_assign rfl rfl) ?_
  refine GL_nil ?_
  refine GW_ret ?_
  exact ⟨_, res2 Try.results17 (rv_cell rfl rfl Try.underlying28 rfl ts28 rfl (hp.get 0 rfl)) (rv_tmp (v := .int _ _) rfl rfl), by rw [hc, layV_no hc], hp.mods⟩
 ·(try simp only [decide_eq_true_eq, decide_eq_false_iff_not, Bool.not_eq_true', Bool.not_eq_false', Bool.not_eq_eq_eq_not, Bool.not_true, Bool.not_false, Int.not_lt, Int.not_le] at hb)
  have hc : planC p = 0 := hb
  have hb0 := planC_iff.1 hc
  have hb1 := planB_iff.1 hb0
  have hb2 := pl_bounds hb0
  have e5 : plTx p = 5 + plN p := rfl
  have e4 : plCl p = plTx p + p.t := rfl
  have e3 : plAu p = plCl p + p.c := rfl
  have e2 : plHd p = plAu p + p.a := rfl
  have e1 : plBo p = plHd p + 1 := rfl
  have e7 : plRm p = plN p + 9 + p.t := rfl
  have e0 : plSl p = plBo p + plRm p := rfl
  have e6 : plTo p = plSl p + p.s := rfl
  refine GW_skip ?_
  refine GW_seq ?_
  refine GW_region ?_
  refine GL_rd (wn_none rfl) rfl (rd_field rfl rfl fa23_0 _ rfl) ?_
  refine GL_rd (wn_none rfl) rfl (rd_load rfl rfl Try.underlying3 rfl ((cell_of_cells (hp.get 1 rfl) _).trans rfl)) ?_
  refine GL_rd (wn_none rfl) rfl (rd_bin rfl rfl rfl (bo_mul64 (by omega))) ?_
  refine GL_rd (wn_none rfl) rfl (rd_bin rfl rfl rfl (bo_add64 (by omega))) ?_
  refine GL_rd (wn_none rfl) rfl (rd_bin rfl rfl rfl (bo_sub64 (by omega))) ?_
  refine GL_rd (wn_none rfl) rfl (rd_bin rfl rfl rfl (bo_int (q := plN p) (bo_quo64 (by omega) (by omega) (by omega)) rfl)) ?_
  refine GL_rd (v := .int _ _) (wn_none rfl) rfl (rd_assign rfl rfl) ?_
  refine GL_nil ?_
  refine GW_seq ?_
  refine GW_region ?_
  refine GL_rd (wn_none rfl) rfl (rd_loadC rfl rfl Try.underlying23 rfl ts23 (hp.get 1 rfl) (by first | rfl | simp [bys_length, *])) ?_
  refine GL_rd (v := .int _ _) (wn_none rfl) rfl (rd_move rfl rfl) ?_
  refine GL_rd (wn_none rfl) rfl (rd_bin rfl rfl rfl (bo_mul64 (by omega))) ?_
  refine GL_rd (v := .int _ _) (wn_none rfl) rfl (rd_move rfl rfl) ?_
  refine GL_rd (wn_none rfl) rfl (rd_bin rfl rfl rfl (bo_add64 (by omega))) ?_
  refine GL_rd (wn_none rfl) rfl (rd_field rfl rfl fa23_1 _ rfl) ?_
  refine GL_rd (wn_none rfl) rfl (rd_load rfl rfl Try.underlying3 rfl ((cell_of_cells (hp.get 1 rfl) _).trans rfl)) ?_
  refine GL_rd (wn_none rfl) rfl (rd_bin rfl rfl rfl (bo_add64 (by omega))) ?_
  refine GL_rd (wn_none rfl) rfl (rd_buildS (L := [.int .i64 p.s, .int .i64 p.t, .int .i64 p.c, .int .i64 p.a, .int .i64 5, .int .i64 0, .int .i64 0, .int .i64 0, .int .i64 0, .int .i64 0, .int .i64 0, .int .i64 0, .int .i64 (plEn p), .int .i64 (plRm p)]) rfl tz28 pl28 (by kernel_rfl)) ?_
  refine GL_alloc (wn_none rfl) rfl rfl tz28 rfl hp ?_
  intro g3 w hp
  refine GL_store (i := 0) (wn_none rfl) rfl rfl rfl rfl ts28 rfl rfl (oneC rfl (oneC rfl (oneC rfl (oneC rfl (oneC rfl (oneC rfl (oneC rfl (oneC rfl (oneC rfl (oneC rfl (oneC rfl (oneC rfl (oneC rfl (oneC rfl one0)))))))))))))) hp rfl (by first | exact Nat.le_of_ble_eq_true rfl | simp [bys_length, *]) (show splice _ _ _ = ([.int .i64 p.s, .int .i64 p.t, .int .i64 p.c, .int .i64 p.a, .int .i64 5, .int .i64 0, .int .i64 0, .int .i64 0, .int .i64 0, .int .i64 0, .int .i64 0, .int .i64 0, .int .i64 (plEn p), .int .i64 (plRm p)] : List Value) from rfl) ?_
  intro w hp
  refine GL_nil ?_
  refine GW_seq ?_
  refine GW_region ?_
  refine GL_rd (wn_none rfl) rfl (rd_field rfl rfl fa28_1 _ rfl) ?_
  refine GL_rd (wn_none rfl) rfl (rd_load rfl rfl Try.underlying3 rfl ((cell_of_cells (hp.get 0 rfl) _).trans rfl)) ?_
  refine GL_rd (v := .int _ _) (wn_none rfl) rfl (rd_move rfl rfl) ?_
  refine GL_rd (wn_none rfl) rfl (rd_bin rfl rfl rfl (bo_int (q := plTx p) (bo_add64 (by omega)) rfl)) ?_
  refine GL_rd (wn_none rfl) rfl (rd_field rfl rfl fa28_2 _ rfl) ?_
  refine GL_store (i := 0) (wn_none rfl) rfl rfl rfl rfl ts3 rfl rfl (one1 rfl) hp rfl (by first | exact Nat.le_of_ble_eq_true rfl | simp [bys_length, *]) (show splice _ _ _ = ([.int .i64 p.s, .int .i64 p.t, .int .i64 p.c, .int .i64 p.a, .int .i64 5, .int .i64 (plTx p), .int .i64 0, .int .i64 0, .int .i64 0, .int .i64 0, .int .i64 0, .int .i64 0, .int .i64 (plEn p), .int .i64 (plRm p)] : List Value) from rfl) ?_
  intro w hp
  refine GL_nil ?_
  refine GW_seq ?_
  refine GW_region ?_
  refine GL_rd (wn_none rfl) rfl (rd_field rfl rfl fa28_2 _ rfl) ?_
  refine GL_rd (wn_none rfl) rfl (rd_load rfl rfl Try.underlying3 rfl ((cell_of_cells (hp.get 0 rfl) _).trans rfl)) ?_
  refine GL_rd (wn_none rfl) rfl (rd_field rfl rfl fa23_1 _ rfl) ?_
  refine GL_rd (wn_none rfl) rfl (rd_load rfl rfl Try.underlying3 rfl ((cell_of_cells (hp.get 2 rfl) _).trans rfl)) ?_
  refine GL_rd (wn_none rfl) rfl (rd_bin rfl rfl rfl (bo_int (q := plCl p) (bo_add64 (by omega)) rfl)) ?_
  refine GL_rd (wn_none rfl) rfl (rd_field rfl rfl fa28_3 _ rfl) ?_
  refine GL_store (i := 0) (wn_none rfl) rfl rfl rfl rfl ts3 rfl rfl (one1 rfl) hp rfl (by first | exact Nat.le_of_ble_eq_true rfl | simp [bys_length, *]) (show splice _ _ _ = ([.int .i64 p.s, .int .i64 p.t, .int .i64 p.c, .int .i64 p.a, .int .i64 5, .int .i64 (plTx p), .int .i64 (plCl p), .int .i64 0, .int .i64 0, .int .i64 0, .int .i64 0, .int .i64 0, .int .i64 (plEn p), .int .i64 (plRm p)] : List Value) from rfl) ?_
  intro w hp
  refine GL_nil ?_
  refine GW_seq ?_
  refine GW_region ?_
  refine GL_rd (wn_none rfl) rfl (rd_field rfl rfl fa28_3 _ rfl) ?_
  refine GL_rd (wn_none rfl) rfl (rd_load rfl rfl Try.underlying3 rfl ((cell_of_cells (hp.get 0 rfl) _).trans rfl)) ?_
  refine GL_rd (wn_none rfl) rfl (rd_field rfl rfl fa23_2 _ rfl) ?_
  refine GL_rd (wn_none rfl) rfl (rd_load rfl rfl Try.underlying3 rfl ((cell_of_cells (hp.get 2 rfl) _).trans rfl)) ?_
  refine GL_rd (wn_none rfl) rfl (rd_bin rfl rfl rfl (bo_int (q := plAu p) (bo_add64 (by omega)) rfl)) ?_
  refine GL_rd (wn_none rfl) rfl (rd_field rfl rfl fa28_4 _ rfl) ?_
  refine GL_store (i := 0) (wn_none rfl) rfl rfl rfl rfl ts3 rfl rfl (one1 rfl) hp rfl (by first | exact Nat.le_of_ble_eq_true rfl | simp [bys_length, *]) (show splice _ _ _ = ([.int .i64 p.s, .int .i64 p.t, .int .i64 p.c, .int .i64 p.a, .int .i64 5, .int .i64 (plTx p), .int .i64 (plCl p), .int .i64 (plAu p), .int .i64 0, .int .i64 0, .int .i64 0, .int .i64 0, .int .i64 (plEn p), .int .i64 (plRm p)] : List Value) from rfl) ?_
  intro w hp
  refine GL_nil ?_
  refine GW_seq ?_
  refine GW_region ?_
  refine GL_rd (wn_none rfl) rfl (rd_field rfl rfl fa28_4 _ rfl) ?_
  refine GL_rd (wn_none rfl) rfl (rd_load rfl rfl Try.underlying3 rfl ((cell_of_cells (hp.get 0 rfl) _).trans rfl)) ?_
  refine GL_rd (wn_none rfl) rfl (rd_field rfl rfl fa23_3 _ rfl) ?_
  refine GL_rd (wn_none rfl) rfl (rd_load rfl rfl Try.underlying3 rfl ((cell_of_cells (hp.get 2 rfl) _).trans rfl)) ?_
  refine GL_rd (wn_none rfl) rfl (rd_bin rfl rfl rfl (bo_int (q := plHd p) (bo_add64 (by omega)) rfl)) ?_
  refine GL_rd (wn_none rfl) rfl (rd_field rfl rfl fa28_5 _ rfl) ?_
  refine GL_store (i := 0) (wn_none rfl) rfl rfl rfl rfl ts3 rfl rfl (one1 rfl) hp rfl (by first | exact Nat.le_of_ble_eq_true rfl | simp [bys_length, *]) (show splice _ _ _ = ([.int .i64 p.s, .int .i64 p.t, .int .i64 p.c, .int .i64 p.a, .int .i64 5, .int .i64 (plTx p), .int .i64 (plCl p), .int .i64 (plAu p), .int .i64 (plHd p), .int .i64 0, .int .i64 0, .int .i64 0, .int .i64 (plEn p), .int .i64 (plRm p)] : List Value) from rfl) ?_
  intro w hp
  refine GL_nil ?_
  refine GW_seq ?_
  refine GW_region ?_
  refine GL_rd (wn_none rfl) rfl (rd_field rfl rfl fa28_5 _ rfl) ?_
  refine GL_rd (wn_none rfl) rfl (rd_load rfl rfl Try.underlying3 rfl ((cell_of_cells (hp.get 0 rfl) _).trans rfl)) ?_
  refine GL_rd (wn_none rfl) rfl (rd_bin rfl rfl rfl (bo_int (q := plBo p) (bo_add64 (by omega)) rfl)) ?_
  refine GL_rd (wn_none rfl) rfl (rd_field rfl rfl fa28_6 _ rfl) ?_
  refine GL_store (i := 0) (wn_none rfl) rfl rfl rfl rfl ts3 rfl rfl (one1 rfl) hp rfl (by first | exact Nat.le_of_ble_eq_true rfl | simp [bys_length, *]) (show splice _ _ _ = ([.int .i64 p.s, .int .i64 p.t, .int .i64 p.c, .int .i64 p.a, .int .i64 5, .int .i64 (plTx p), .int .i64 (plCl p), .int .i64 (plAu p), .int .i64 (plHd p), .int .i64 (plBo p), .int .i64 0, .int .i64 0, .int .i64 (plEn p), .int .i64 (plRm p)] : List Value) from rfl) ?_
  intro w hp
  refine GL_nil ?_
  refine GW_seq ?_
  refine GW_region ?_
  refine GL_rd (wn_none rfl) rfl (rd_field rfl rfl fa28_6 _ rfl) ?_
  refine GL_rd (wn_none rfl) rfl (rd_load rfl rfl Try.underlying3 rfl ((cell_of_cells (hp.get 0 rfl) _).trans rfl)) ?_
  refine GL_rd (wn_none rfl) rfl (rd_field rfl rfl fa28_10 _ rfl) ?_
  refine GL_rd (wn_none rfl) rfl (rd_load rfl rfl Try.underlying3 rfl ((cell_of_cells (hp.get 0 rfl) _).trans rfl)) ?_
  refine GL_rd (wn_none rfl) rfl (rd_bin rfl rfl rfl (bo_int (q := plSl p) (bo_add64 (by omega)) rfl)) ?_
  refine GL_rd (wn_none rfl) rfl (rd_field rfl rfl fa28_7 _ rfl) ?_
  refine GL_store (i := 0) (wn_none rfl) rfl rfl rfl rfl ts3 rfl rfl (one1 rfl) hp rfl (by first | exact Nat.le_of_ble_eq_true rfl | simp [bys_length, *]) (show splice _ _ _ = ([.int .i64 p.s, .int .i64 p.t, .int .i64 p.c, .int .i64 p.a, .int .i64 5, .int .i64 (plTx p), .int .i64 (plCl p), .int .i64 (plAu p), .int .i64 (plHd p), .int .i64 (plBo p), .int .i64 (plSl p), .int .i64 0, .int .i64 (plEn p), .int .i64 (plRm p)] : List Value) from rfl) ?_
  intro w hp
  refine GL_nil ?_
  refine GW_seq ?_
  refine GW_region ?_
  refine GL_rd (wn_none rfl) rfl (rd_field rfl rfl fa28_7 _ rfl) ?_
  refine GL_rd (wn_none rfl) rfl (rd_load rfl rfl Try.underlying3 rfl ((cell_of_cells (hp.get 0 rfl) _).trans rfl)) ?_
  refine GL_rd (wn_none rfl) rfl (rd_field rfl rfl fa23_0 _ rfl) ?_
  refine GL_rd (wn_none rfl) rfl (rd_load rfl rfl Try.underlying3 rfl ((cell_of_cells (hp.get 2 rfl) _).trans rfl)) ?_
  refine GL_rd (wn_none rfl) rfl (rd_bin rfl rfl rfl (bo_int (q := plTo p) (bo_add64 (by omega)) rfl)) ?_
  refine GL_rd (wn_none rfl) rfl (rd_field rfl rfl fa28_8 _ rfl) ?_
  refine GL_store (i := 0) (wn_none rfl) rfl rfl rfl rfl ts3 rfl rfl (one1 rfl) hp rfl (by first | exact Nat.le_of_ble_eq_true rfl | simp [bys_length, *]) (show splice _ _ _ = ([.int .i64 p.s, .int .i64 p.t, .int .i64 p.c, .int .i64 p.a, .int .i64 5, .int .i64 (plTx p), .int .i64 (plCl p), .int .i64 (plAu p), .int .i64 (plHd p), .int .i64 (plBo p), .int .i64 (plSl p), .int .i64 (plTo p), .int .i64 (plEn p), .int .i64 (plRm p)] : List Value) from rfl) ?_
  intro w hp
  refine GL_nil ?_
  refine GW_seq ?_
  refine GW_seq ?_
  refine GW_region ?_
  refine GL_rd (wn_none rfl) rfl (rd_field rfl rfl fa28_8 _ rfl) ?_
  refine GL_rd (wn_none rfl) rfl (rd_load rfl rfl Try.underlying3 rfl ((cell_of_cells (hp.get 0 rfl) _).trans rfl)) ?_
  refine GL_rd (wn_none rfl) rfl (rd_bin rfl rfl rfl bo_gtr) ?_
  refine GL_nil ?_
  refine GW_cond rfl (fun hb2 => ?_) (fun hb2 => ?_)
  ·(try simp only [decide_eq_true_eq, decide_eq_false_iff_not, Bool.not_eq_true', Bool.not_eq_false', Bool.not_eq_eq_eq_not, Bool.not_true, Bool.not_false, Int.not_lt, Int.not_le] at hb2)
   exact absurd hb2 (by omega)
  ·(try simp only [decide_eq_true_eq, decide_eq_false_iff_not, Bool.not_eq_true', Bool.not_eq_false', Bool.not_eq_eq_eq_not, Bool.not_true, Bool.not_false, Int.not_lt, Int.not_le] at hb2)
   refine GW_skip ?_
   refine GW_seq ?_
   refine GW_region ?_
   refine GL_rd (wn_none rfl) rfl (rd_loadC rfl rfl Try.underlying28 rfl ts28 (hp.get 0 rfl) (by first | rfl | simp [bys_length, *])) ?_
   refine GL_store (i := 1) (wn_none rfl) rfl rfl rfl rfl ts28 rfl rfl (oneC rfl (oneC rfl (oneC rfl (oneC rfl (oneC rfl (oneC rfl (oneC rfl (oneC rfl (oneC rfl (oneC rfl (oneC rfl (oneC rfl (oneC rfl (oneC rfl one0)))))))))))))) hp rfl (by first | exact Nat.le_of_ble_eq_true rfl | simp [bys_length, *]) (show splice _ _ _ = (layC p : List Value) from rfl) ?_
   intro w hp
   refine GL_rd (v := .int _ _) (wn_none rfl) rfl (rd_assign rfl rfl) ?_
   refine GL_nil ?_
   refine GW_ret ?_
   exact ⟨_, res2 Try.results17 (rv_cell rfl rfl Try.underlying28 rfl ts28 rfl (hp.get 1 rfl)) (rv_tmp (v := .int _ _) rfl rfl), by rw [hc, layV_yes hc], hp.mods⟩

theorem plan_Part (p : Pl) (a : Int) (w0 : World) : Does Try.prog 89 #[.agg ⟨layC p⟩, .int .i64 a] w0 fun v w' => v = .string (partS p a) ∧ Hp w0 [] w' [] := by
 refine does_of (l := [.agg ⟨layC p⟩, .int .i64 a]) Try.func89 (by kernel_rfl) rfl Try.ntmps89 rfl rfl ?_
 have hp := Hp.refl w0 []
 refine GW_seq ?_
 refine GW_region ?_
 refine GL_box (wn_none rfl) rfl rfl rfl rfl hp ?_
 intro g w hp
 refine GL_rd (v := .string _) (wn_none rfl) rfl (rd_assign rfl rfl) ?_
 refine GL_nil ?_
 refine GW_seq ?_
 refine GW_block ?_
 refine GW_seq ?_
 refine GW_region ?_
 refine GL_rd (v := .int _ _) (wn_none rfl) rfl (rd_move rfl rfl) ?_
 refine GL_rd (wn_none rfl) rfl (rd_bin rfl rfl rfl bo_lss) ?_
 refine GL_rd (v := .bool _) (wn_none rfl) rfl (rd_move rfl rfl) ?_
 refine GL_split (t := 8) (b := _) rfl ?_ ?_
 ·intro hb; (try simp only [decide_eq_true_eq, decide_eq_false_iff_not, Bool.not_eq_true', Bool.not_eq_false', Bool.not_eq_eq_eq_not, Bool.not_true, Bool.not_false, Int.not_lt, Int.not_le] at hb)
  have h1 := hb
  refine GL_pass (nw_off rfl rfl rfl rfl rfl) rfl ?_
  refine GL_pass (nw_off rfl rfl rfl rfl rfl) rfl ?_
  refine GL_pass (nw_off rfl rfl rfl rfl rfl) rfl ?_
  refine GL_pass (nw_off rfl rfl rfl rfl rfl) rfl ?_
  refine GL_rd (v := .bool _) (wn_none rfl) rfl (rd_pickT rfl rfl rfl) ?_
  refine GL_rd (v := .bool _) (wn_none rfl) rfl (rd_assign rfl rfl) ?_
  refine GL_nil ?_
  refine GW_true rfl ?_
  refine GW_seq ?_
  refine GW_region ?_
  refine GL_rd (v := .string _) (wn_none rfl) rfl (rd_assign rfl rfl) ?_
  refine GL_nil ?_
  refine GW_ret ?_
  exact ⟨_, res1 Try.results89 (rv_tmp (v := .string _) rfl rfl), (by unfold partS; (repeat' (first | rw [if_pos (by omega)] | rw [if_neg (by omega)]))), hp.mods⟩
 ·intro hb; (try simp only [decide_eq_true_eq, decide_eq_false_iff_not, Bool.not_eq_true', Bool.not_eq_false', Bool.not_eq_eq_eq_not, Bool.not_true, Bool.not_false, Int.not_lt, Int.not_le] at hb)
  have h1 := hb
  refine GL_rd (v := .int _ _) (wn_on rfl rfl rfl rfl) rfl (rd_move rfl rfl) ?_
  refine GL_rd (wn_on rfl rfl rfl rfl) rfl (rd_field rfl rfl fa28_8 _ rfl) ?_
  refine GL_rd (wn_on rfl rfl rfl rfl) rfl (rd_load rfl rfl Try.underlying3 rfl ((cell_of_cells (hp.get 0 rfl) _).trans rfl)) ?_
  refine GL_rd (wn_on rfl rfl rfl rfl) rfl (rd_bin rfl rfl rfl bo_geq) ?_
  refine GL_rd (v := .bool _) (wn_none rfl) rfl (rd_pickF rfl rfl rfl) ?_
  refine GL_rd (v := .bool _) (wn_none rfl) rfl (rd_assign rfl rfl) ?_
  refine GL_nil ?_
  refine GW_cond rfl (fun hb2 => ?_) (fun hb2 => ?_)
  ·(try simp only [decide_eq_true_eq, decide_eq_false_iff_not, Bool.not_eq_true', Bool.not_eq_false', Bool.not_eq_eq_eq_not, Bool.not_true, Bool.not_false, Int.not_lt, Int.not_le] at hb2)
   refine GW_seq ?_
   refine GW_region ?_
   refine GL_rd (v := .string _) (wn_none rfl) rfl (rd_assign rfl rfl) ?_
   refine GL_nil ?_
   refine GW_ret ?_
   exact ⟨_, res1 Try.results89 (rv_tmp (v := .string _) rfl rfl), (by unfold partS; (repeat' (first | rw [if_pos (by omega)] | rw [if_neg (by omega)]))), hp.mods⟩
  ·(try simp only [decide_eq_true_eq, decide_eq_false_iff_not, Bool.not_eq_true', Bool.not_eq_false', Bool.not_eq_eq_eq_not, Bool.not_true, Bool.not_false, Int.not_lt, Int.not_le] at hb2)
   refine GW_seq ?_
   refine GW_region ?_
   refine GL_rd (v := .int _ _) (wn_none rfl) rfl (rd_move rfl rfl) ?_
   refine GL_rd (wn_none rfl) rfl (rd_field rfl rfl fa28_7 _ rfl) ?_
   refine GL_rd (wn_none rfl) rfl (rd_load rfl rfl Try.underlying3 rfl ((cell_of_cells (hp.get 0 rfl) _).trans rfl)) ?_
   refine GL_rd (wn_none rfl) rfl (rd_bin rfl rfl rfl bo_geq) ?_
   refine GL_rd (v := .bool _) (wn_none rfl) rfl (rd_assign rfl rfl) ?_
   refine GL_nil ?_
   refine GW_cond rfl (fun hb3 => ?_) (fun hb3 => ?_)
   ·(try simp only [decide_eq_true_eq, decide_eq_false_iff_not, Bool.not_eq_true', Bool.not_eq_false', Bool.not_eq_eq_eq_not, Bool.not_true, Bool.not_false, Int.not_lt, Int.not_le] at hb3)
    refine GW_seq ?_
    refine GW_region ?_
    refine GL_rd (v := .string _) (wn_none rfl) rfl (rd_assign rfl rfl) ?_
    refine GL_nil ?_
    refine GW_ret ?_
    exact ⟨_, res1 Try.results89 (rv_tmp (v := .string _) rfl rfl), (by unfold partS; (repeat' (first | rw [if_pos (by omega)] | rw [if_neg (by omega)]))), hp.mods⟩
   ·(try simp only [decide_eq_true_eq, decide_eq_false_iff_not, Bool.not_eq_true', Bool.not_eq_false', Bool.not_eq_eq_eq_not, Bool.not_true, Bool.not_false, Int.not_lt, Int.not_le] at hb3)
    refine GW_seq ?_
    refine GW_region ?_
    refine GL_rd (v := .int _ _) (wn_none rfl) rfl (rd_move rfl rfl) ?_
    refine GL_rd (wn_none rfl) rfl (rd_field rfl rfl fa28_6 _ rfl) ?_
    refine GL_rd (wn_none rfl) rfl (rd_load rfl rfl Try.underlying3 rfl ((cell_of_cells (hp.get 0 rfl) _).trans rfl)) ?_
    refine GL_rd (wn_none rfl) rfl (rd_bin rfl rfl rfl bo_geq) ?_
    refine GL_rd (v := .bool _) (wn_none rfl) rfl (rd_assign rfl rfl) ?_
    refine GL_nil ?_
    refine GW_cond rfl (fun hb4 => ?_) (fun hb4 => ?_)
    ·(try simp only [decide_eq_true_eq, decide_eq_false_iff_not, Bool.not_eq_true', Bool.not_eq_false', Bool.not_eq_eq_eq_not, Bool.not_true, Bool.not_false, Int.not_lt, Int.not_le] at hb4)
     refine GW_seq ?_
     refine GW_region ?_
     refine GL_rd (v := .string _) (wn_none rfl) rfl (rd_assign rfl rfl) ?_
     refine GL_nil ?_
     refine GW_ret ?_
     exact ⟨_, res1 Try.results89 (rv_tmp (v := .string _) rfl rfl), (by unfold partS; (repeat' (first | rw [if_pos (by omega)] | rw [if_neg (by omega)]))), hp.mods⟩
    ·(try simp only [decide_eq_true_eq, decide_eq_false_iff_not, Bool.not_eq_true', Bool.not_eq_false', Bool.not_eq_eq_eq_not, Bool.not_true, Bool.not_false, Int.not_lt, Int.not_le] at hb4)
     refine GW_seq ?_
     refine GW_region ?_
     refine GL_rd (v := .int _ _) (wn_none rfl) rfl (rd_move rfl rfl) ?_
     refine GL_rd (wn_none rfl) rfl (rd_field rfl rfl fa28_5 _ rfl) ?_
     refine GL_rd (wn_none rfl) rfl (rd_load rfl rfl Try.underlying3 rfl ((cell_of_cells (hp.get 0 rfl) _).trans rfl)) ?_
     refine GL_rd (wn_none rfl) rfl (rd_bin rfl rfl rfl bo_eql) ?_
     refine GL_rd (v := .bool _) (wn_none rfl) rfl (rd_assign rfl rfl) ?_
     refine GL_nil ?_
     refine GW_cond rfl (fun hb5 => ?_) (fun hb5 => ?_)
     ·(try simp only [decide_eq_true_eq, decide_eq_false_iff_not, Bool.not_eq_true', Bool.not_eq_false', Bool.not_eq_eq_eq_not, Bool.not_true, Bool.not_false, Int.not_lt, Int.not_le] at hb5)
      refine GW_seq ?_
      refine GW_region ?_
      refine GL_rd (v := .string _) (wn_none rfl) rfl (rd_assign rfl rfl) ?_
      refine GL_nil ?_
      refine GW_ret ?_
      exact ⟨_, res1 Try.results89 (rv_tmp (v := .string _) rfl rfl), (by unfold partS; (repeat' (first | rw [if_pos (by omega)] | rw [if_neg (by omega)]))), hp.mods⟩
     ·(try simp only [decide_eq_true_eq, decide_eq_false_iff_not, Bool.not_eq_true', Bool.not_eq_false', Bool.not_eq_eq_eq_not, Bool.not_true, Bool.not_false, Int.not_lt, Int.not_le] at hb5)
      refine GW_seq ?_
      refine GW_region ?_
      refine GL_rd (v := .int _ _) (wn_none rfl) rfl (rd_move rfl rfl) ?_
      refine GL_rd (wn_none rfl) rfl (rd_field rfl rfl fa28_4 _ rfl) ?_
      refine GL_rd (wn_none rfl) rfl (rd_load rfl rfl Try.underlying3 rfl ((cell_of_cells (hp.get 0 rfl) _).trans rfl)) ?_
      refine GL_rd (wn_none rfl) rfl (rd_bin rfl rfl rfl bo_geq) ?_
      refine GL_rd (v := .bool _) (wn_none rfl) rfl (rd_assign rfl rfl) ?_
      refine GL_nil ?_
      refine GW_cond rfl (fun hb6 => ?_) (fun hb6 => ?_)
      ·(try simp only [decide_eq_true_eq, decide_eq_false_iff_not, Bool.not_eq_true', Bool.not_eq_false', Bool.not_eq_eq_eq_not, Bool.not_true, Bool.not_false, Int.not_lt, Int.not_le] at hb6)
       refine GW_seq ?_
       refine GW_region ?_
       refine GL_rd (v := .string _) (wn_none rfl) rfl (rd_assign rfl rfl) ?_
       refine GL_nil ?_
       refine GW_ret ?_
       exact ⟨_, res1 Try.results89 (rv_tmp (v := .string _) rfl rfl), (by unfold partS; (repeat' (first | rw [if_pos (by omega)] | rw [if_neg (by omega)]))), hp.mods⟩
      ·(try simp only [decide_eq_true_eq, decide_eq_false_iff_not, Bool.not_eq_true', Bool.not_eq_false', Bool.not_eq_eq_eq_not, Bool.not_true, Bool.not_false, Int.not_lt, Int.not_le] at hb6)
       refine GW_seq ?_
       refine GW_region ?_
       refine GL_rd (v := .int _ _) (wn_none rfl) rfl (rd_move rfl rfl) ?_
       refine GL_rd (wn_none rfl) rfl (rd_field rfl rfl fa28_3 _ rfl) ?_
       refine GL_rd (wn_none rfl) rfl (rd_load rfl rfl Try.underlying3 rfl ((cell_of_cells (hp.get 0 rfl) _).trans rfl)) ?_
       refine GL_rd (wn_none rfl) rfl (rd_bin rfl rfl rfl bo_geq) ?_
       refine GL_rd (v := .bool _) (wn_none rfl) rfl (rd_assign rfl rfl) ?_
       refine GL_nil ?_
       refine GW_cond rfl (fun hb7 => ?_) (fun hb7 => ?_)
       ·(try simp only [decide_eq_true_eq, decide_eq_false_iff_not, Bool.not_eq_true', Bool.not_eq_false', Bool.not_eq_eq_eq_not, Bool.not_true, Bool.not_false, Int.not_lt, Int.not_le] at hb7)
        refine GW_seq ?_
        refine GW_region ?_
        refine GL_rd (v := .string _) (wn_none rfl) rfl (rd_assign rfl rfl) ?_
        refine GL_nil ?_
        refine GW_ret ?_
        exact ⟨_, res1 Try.results89 (rv_tmp (v := .string _) rfl rfl), (by unfold partS; (repeat' (first | rw [if_pos (by omega)] | rw [if_neg (by omega)]))), hp.mods⟩
       ·(try simp only [decide_eq_true_eq, decide_eq_false_iff_not, Bool.not_eq_true', Bool.not_eq_false', Bool.not_eq_eq_eq_not, Bool.not_true, Bool.not_false, Int.not_lt, Int.not_le] at hb7)
        refine GW_seq ?_
        refine GW_region ?_
        refine GL_rd (v := .int _ _) (wn_none rfl) rfl (rd_move rfl rfl) ?_
        refine GL_rd (wn_none rfl) rfl (rd_field rfl rfl fa28_2 _ rfl) ?_
        refine GL_rd (wn_none rfl) rfl (rd_load rfl rfl Try.underlying3 rfl ((cell_of_cells (hp.get 0 rfl) _).trans rfl)) ?_
        refine GL_rd (wn_none rfl) rfl (rd_bin rfl rfl rfl bo_geq) ?_
        refine GL_rd (v := .bool _) (wn_none rfl) rfl (rd_assign rfl rfl) ?_
        refine GL_nil ?_
        refine GW_cond rfl (fun hb8 => ?_) (fun hb8 => ?_)
        ·(try simp only [decide_eq_true_eq, decide_eq_false_iff_not, Bool.not_eq_true', Bool.not_eq_false', Bool.not_eq_eq_eq_not, Bool.not_true, Bool.not_false, Int.not_lt, Int.not_le] at hb8)
         refine GW_seq ?_
         refine GW_region ?_
         refine GL_rd (v := .string _) (wn_none rfl) rfl (rd_assign rfl rfl) ?_
         refine GL_nil ?_
         refine GW_ret ?_
         exact ⟨_, res1 Try.results89 (rv_tmp (v := .string _) rfl rfl), (by unfold partS; (repeat' (first | rw [if_pos (by omega)] | rw [if_neg (by omega)]))), hp.mods⟩
        ·(try simp only [decide_eq_true_eq, decide_eq_false_iff_not, Bool.not_eq_true', Bool.not_eq_false', Bool.not_eq_eq_eq_not, Bool.not_true, Bool.not_false, Int.not_lt, Int.not_le] at hb8)
         refine GW_seq ?_
         refine GW_region ?_
         refine GL_rd (v := .int _ _) (wn_none rfl) rfl (rd_move rfl rfl) ?_
         refine GL_rd (wn_none rfl) rfl (rd_field rfl rfl fa28_1 _ rfl) ?_
         refine GL_rd (wn_none rfl) rfl (rd_load rfl rfl Try.underlying3 rfl ((cell_of_cells (hp.get 0 rfl) _).trans rfl)) ?_
         refine GL_rd (wn_none rfl) rfl (rd_bin rfl rfl rfl bo_geq) ?_
         refine GL_rd (v := .bool _) (wn_none rfl) rfl (rd_assign rfl rfl) ?_
         refine GL_nil ?_
         refine GW_cond rfl (fun hb9 => ?_) (fun hb9 => ?_)
         ·(try simp only [decide_eq_true_eq, decide_eq_false_iff_not, Bool.not_eq_true', Bool.not_eq_false', Bool.not_eq_eq_eq_not, Bool.not_true, Bool.not_false, Int.not_lt, Int.not_le] at hb9)
          refine GW_seq ?_
          refine GW_region ?_
          refine GL_rd (v := .string _) (wn_none rfl) rfl (rd_assign rfl rfl) ?_
          refine GL_nil ?_
          refine GW_ret ?_
          exact ⟨_, res1 Try.results89 (rv_tmp (v := .string _) rfl rfl), (by unfold partS; (repeat' (first | rw [if_pos (by omega)] | rw [if_neg (by omega)]))), hp.mods⟩
         ·(try simp only [decide_eq_true_eq, decide_eq_false_iff_not, Bool.not_eq_true', Bool.not_eq_false', Bool.not_eq_eq_eq_not, Bool.not_true, Bool.not_false, Int.not_lt, Int.not_le] at hb9)
          refine GW_seq ?_
          refine GW_region ?_
          refine GL_rd (v := .int _ _) (wn_none rfl) rfl (rd_move rfl rfl) ?_
          refine GL_rd (wn_none rfl) rfl (rd_bin rfl rfl rfl bo_eql) ?_
          refine GL_rd (v := .bool _) (wn_none rfl) rfl (rd_assign rfl rfl) ?_
          refine GL_nil ?_
          refine GW_cond rfl (fun hb10 => ?_) (fun hb10 => ?_)
          ·(try simp only [decide_eq_true_eq, decide_eq_false_iff_not, Bool.not_eq_true', Bool.not_eq_false', Bool.not_eq_eq_eq_not, Bool.not_true, Bool.not_false, Int.not_lt, Int.not_le] at hb10)
           refine GW_seq ?_
           refine GW_region ?_
           refine GL_rd (v := .string _) (wn_none rfl) rfl (rd_assign rfl rfl) ?_
           refine GL_nil ?_
           refine GW_ret ?_
           exact ⟨_, res1 Try.results89 (rv_tmp (v := .string _) rfl rfl), (by unfold partS; (repeat' (first | rw [if_pos (by omega)] | rw [if_neg (by omega)]))), hp.mods⟩
          ·(try simp only [decide_eq_true_eq, decide_eq_false_iff_not, Bool.not_eq_true', Bool.not_eq_false', Bool.not_eq_eq_eq_not, Bool.not_true, Bool.not_false, Int.not_lt, Int.not_le] at hb10)
           refine GW_seq ?_
           refine GW_region ?_
           refine GL_rd (v := .int _ _) (wn_none rfl) rfl (rd_move rfl rfl) ?_
           refine GL_rd (wn_none rfl) rfl (rd_bin rfl rfl rfl bo_eql) ?_
           refine GL_rd (v := .bool _) (wn_none rfl) rfl (rd_assign rfl rfl) ?_
           refine GL_nil ?_
           refine GW_cond rfl (fun hb11 => ?_) (fun hb11 => ?_)
           ·(try simp only [decide_eq_true_eq, decide_eq_false_iff_not, Bool.not_eq_true', Bool.not_eq_false', Bool.not_eq_eq_eq_not, Bool.not_true, Bool.not_false, Int.not_lt, Int.not_le] at hb11)
            refine GW_seq ?_
            refine GW_region ?_
            refine GL_rd (v := .string _) (wn_none rfl) rfl (rd_assign rfl rfl) ?_
            refine GL_nil ?_
            refine GW_ret ?_
            exact ⟨_, res1 Try.results89 (rv_tmp (v := .string _) rfl rfl), (by unfold partS; (repeat' (first | rw [if_pos (by omega)] | rw [if_neg (by omega)]))), hp.mods⟩
           ·(try simp only [decide_eq_true_eq, decide_eq_false_iff_not, Bool.not_eq_true', Bool.not_eq_false', Bool.not_eq_eq_eq_not, Bool.not_true, Bool.not_false, Int.not_lt, Int.not_le] at hb11)
            refine GW_seq ?_
            refine GW_region ?_
            refine GL_rd (v := .int _ _) (wn_none rfl) rfl (rd_move rfl rfl) ?_
            refine GL_rd (wn_none rfl) rfl (rd_bin rfl rfl rfl bo_eql) ?_
            refine GL_rd (v := .bool _) (wn_none rfl) rfl (rd_assign rfl rfl) ?_
            refine GL_nil ?_
            refine GW_cond rfl (fun hb12 => ?_) (fun hb12 => ?_)
            ·(try simp only [decide_eq_true_eq, decide_eq_false_iff_not, Bool.not_eq_true', Bool.not_eq_false', Bool.not_eq_eq_eq_not, Bool.not_true, Bool.not_false, Int.not_lt, Int.not_le] at hb12)
             refine GW_seq ?_
             refine GW_region ?_
             refine GL_rd (v := .string _) (wn_none rfl) rfl (rd_assign rfl rfl) ?_
             refine GL_nil ?_
             refine GW_ret ?_
             exact ⟨_, res1 Try.results89 (rv_tmp (v := .string _) rfl rfl), (by unfold partS; (repeat' (first | rw [if_pos (by omega)] | rw [if_neg (by omega)]))), hp.mods⟩
            ·(try simp only [decide_eq_true_eq, decide_eq_false_iff_not, Bool.not_eq_true', Bool.not_eq_false', Bool.not_eq_eq_eq_not, Bool.not_true, Bool.not_false, Int.not_lt, Int.not_le] at hb12)
             refine GW_skip ?_
             refine GW_seq ?_
             refine GW_region ?_
             refine GL_rd (v := .string _) (wn_none rfl) rfl (rd_assign rfl rfl) ?_
             refine GL_nil ?_
             refine GW_ret ?_
             exact ⟨_, res1 Try.results89 (rv_tmp (v := .string _) rfl rfl), (by unfold partS; (repeat' (first | rw [if_pos (by omega)] | rw [if_neg (by omega)]))), hp.mods⟩

theorem ref_plIndex (p : Pl) (w0 : World) (hpl : planB p = true) : Does Try.prog 92 #[.agg ⟨plC p⟩] w0 fun v w' => v = .int .i64 (plN p) ∧ Hp w0 [] w' [] := by
 have hb1 := planB_iff.1 hpl
 have hb2 := pl_bounds hpl
 refine does_of (l := [.agg ⟨plC p⟩]) Try.func92 (by kernel_rfl) rfl Try.ntmps92 rfl rfl ?_
 have hp := Hp.refl w0 []
 refine GW_seq ?_
 refine GW_region ?_
 refine GL_box (wn_none rfl) rfl rfl rfl rfl hp ?_
 intro g w hp
 refine GL_rd (v := .int _ _) (wn_none rfl) rfl (rd_assign rfl rfl) ?_
 refine GL_nil ?_
 refine GW_seq ?_
 refine GW_region ?_
 refine GL_rd (v := .int _ _) (wn_none rfl) rfl (rd_assign rfl rfl) ?_
 refine GL_nil ?_
 refine GW_seq ?_
 refine GW_block ?_
 refine GW_loop ?_
 refine Lp_ind (α := Nat) (fun a_0 f_0 w' => match a_0 with | n => ∃ fz, f_0 = (upd (upd fz 1 (.pointer (some ⟨g, 0, none⟩))) 3 (.int .i64 (n : Int))) ∧ Hp w0 [] w' [cells g 23 (plC p)] ∧ (6 * (n : Int) < 2 * p.s + 6)) (fun a_0 => match a_0 with | n => 100 - n) ?_ 0 _ _ ?_
 ·rintro n f wz ⟨fz, rfl, hp, hn⟩ ihL0
  refine Lp_round ?_
  refine GW_seq ?_
  refine GW_seq ?_
  refine GW_region ?_
  refine GL_rd (v := .int _ _) (wn_none rfl) rfl (rd_move rfl rfl) ?_
  refine GL_rd (wn_none rfl) rfl (rd_bin rfl rfl rfl (bo_mul64 (by omega))) ?_
  refine GL_rd (wn_none rfl) rfl (rd_field rfl rfl fa23_0 _ rfl) ?_
  refine GL_rd (wn_none rfl) rfl (rd_load rfl rfl Try.underlying3 rfl ((cell_of_cells (hp.get 0 rfl) _).trans rfl)) ?_
  refine GL_rd (wn_none rfl) rfl (rd_bin rfl rfl rfl (bo_mul64 (by omega))) ?_
  refine GL_rd (wn_none rfl) rfl (rd_bin rfl rfl rfl bo_lss) ?_
  refine GL_nil ?_
  refine GW_cond rfl (fun hb => ?_) (fun hb => ?_)
  ·(try simp only [decide_eq_true_eq, decide_eq_false_iff_not, Bool.not_eq_true', Bool.not_eq_false', Bool.not_eq_eq_eq_not, Bool.not_true, Bool.not_false, Int.not_lt, Int.not_le] at hb)
   refine GW_skip ?_
   refine GW_block ?_
   refine GW_region ?_
   refine GL_rd (v := .int _ _) (wn_none rfl) rfl (rd_move rfl rfl) ?_
   refine GL_rd (wn_none rfl) rfl (rd_bin rfl rfl rfl (bo_add64 (by omega))) ?_
   refine GL_rd (v := .int _ _) (wn_none rfl) rfl (rd_assign rfl rfl) ?_
   refine GL_nil ?_
   exact ihL0 (n + 1) _ _ (by simp only []; omega) ⟨_, slots2 rfl rfl, hp, by omega⟩
  ·(try simp only [decide_eq_true_eq, decide_eq_false_iff_not, Bool.not_eq_true', Bool.not_eq_false', Bool.not_eq_eq_eq_not, Bool.not_true, Bool.not_false, Int.not_lt, Int.not_le] at hb)
   refine GW_exit ?_
   refine GW_seq ?_
   refine GW_region ?_
   refine GL_rd (v := .int _ _) (wn_none rfl) rfl (rd_move rfl rfl) ?_
   refine GL_rd (v := .int _ _) (wn_none rfl) rfl (rd_assign rfl rfl) ?_
   refine GL_nil ?_
   refine GW_ret ?_
   have e : plN p = (n : Int) := by unfold plN; omega
   exact ⟨_, res1 Try.results92 (rv_tmp (v := .int _ _) rfl rfl), by rw [e], hp.mods⟩
 ·refine ⟨_, slots2 rfl rfl, hp, by omega⟩

theorem ref_plParts (p : Pl) (w0 : World) (hpl : planB p = true) : Does Try.prog 25 #[.agg ⟨plC p⟩] w0 fun v w' => Hp w0 [] w' [.row 9 1 v (partsL p).length ((partsL p).map Value.string)] := by
 have hb1 := planB_iff.1 hpl
 have hb2 := pl_bounds hpl
 have e7 : plRm p = plN p + 9 + p.t := rfl
 refine does_of (l := [.agg ⟨plC p⟩]) Try.func25 (by kernel_rfl) rfl Try.ntmps25 rfl rfl ?_
 have hp := Hp.refl w0 []
 refine GW_seq ?_
 refine GW_region ?_
 refine GL_box (wn_none rfl) rfl rfl rfl rfl hp ?_
 intro g w hp
 refine GL_rd (v := .slice _ _ _) (wn_none rfl) rfl (rd_assign rfl rfl) ?_
 refine GL_nil ?_
 refine GW_seq ?_
 refine GW_region ?_
 refine GL_lit (L := ([bsSuper, bsSuper, bsState, bsMap, bsClasses].map Value.string)) (wn_none rfl) rfl rfl Try.underlying40 ts9 tz9 rfl (by kernel_rfl) rfl rfl hp ?_
 intro g2 w hp
 refine GL_rd (v := .slice _ _ _) (wn_none rfl) rfl (rd_assign rfl rfl) ?_
 refine GL_nil ?_
 refine GW_seq ?_
 refine GW_region ?_
 refine GL_rd (wn_none rfl) rfl (rd_loadC rfl rfl Try.underlying23 rfl ts23 (hp.get 1 rfl) (by first | rfl | simp [bys_length, *])) ?_
 refine GL_call (wn_none rfl) rfl rfl (ref_plIndex p _ hpl) rfl ?_
 rintro _ w ⟨rfl, hk⟩
 have hp := hp.comp hk
 refine GL_rd (v := .int _ _) (wn_none rfl) rfl (rd_assign rfl rfl) ?_
 refine GL_nil ?_
 refine GW_seq ?_
 refine GW_seq ?_
 refine GW_region ?_
 refine GL_rd (v := .int _ _) (wn_none rfl) rfl (rd_assign rfl rfl) ?_
 refine GL_nil ?_
 refine GW_block ?_
 refine GW_loop ?_
 refine Lp_ind (α := Nat × Value) (fun a_0 f_0 w' => match a_0 with | (i, v) => ∃ fz, f_0 = (upd (upd (upd (upd fz 1 (.pointer (some ⟨g, 0, none⟩))) 3 (v)) 4 (.int .i64 (plN p))) 5 (.int .i64 (i : Int))) ∧ Hp w0 [] w' [.row 9 1 v ([bsSuper, bsSuper, bsState, bsMap, bsClasses] ++ List.replicate i bsIndex).length (([bsSuper, bsSuper, bsState, bsMap, bsClasses] ++ List.replicate i bsIndex).map Value.string), cells g 23 (plC p)] ∧ (i ≤ (plN p).toNat)) (fun a_0 => match a_0 with | (i, v) => (plN p).toNat - i) ?_ (0, .slice (some ⟨g2, 0, none⟩) 5 5) _ _ ?_
 ·rintro ⟨i, v⟩ f wz ⟨fz, rfl, hp, hi0⟩ ihL0
  refine Lp_round ?_
  refine GW_seq ?_
  refine GW_seq ?_
  refine GW_region ?_
  refine GL_rd (v := .int _ _) (wn_none rfl) rfl (rd_move rfl rfl) ?_
  refine GL_rd (v := .int _ _) (wn_none rfl) rfl (rd_move rfl rfl) ?_
  refine GL_rd (wn_none rfl) rfl (rd_bin rfl rfl rfl bo_lss) ?_
  refine GL_nil ?_
  refine GW_cond rfl (fun hb => ?_) (fun hb => ?_)
  ·(try simp only [decide_eq_true_eq, decide_eq_false_iff_not, Bool.not_eq_true', Bool.not_eq_false', Bool.not_eq_eq_eq_not, Bool.not_true, Bool.not_false, Int.not_lt, Int.not_le] at hb)
   refine GW_skip ?_
   refine GW_seq ?_
   refine GW_block ?_
   refine GW_region ?_
   refine GL_rd (v := v) (wn_none rfl) rfl (rd_move rfl rfl) ?_
   refine GL_lit (L := [.string bsIndex]) (wn_none rfl) rfl rfl Try.underlying40 ts9 tz9 rfl (by kernel_rfl) rfl rfl hp ?_
   intro g3 w hp
   refine GL_append (i := 1) (wn_none rfl) rfl rfl rfl rfl Try.underlying40 ti9 rfl (by decide) hp rfl (Sl.row (hp.get 0 rfl)) (one1 rfl) (by simp only [List.length_append, List.length_replicate, List.length_cons, List.length_nil]; omega) (by simp only [List.length_append, List.length_replicate, List.length_cons, List.length_nil]; omega) ?_
   intro v w hp
   refine GL_rd (v := v) (wn_none rfl) rfl (rd_assign rfl rfl) ?_
   refine GL_nil ?_
   refine GW_region ?_
   refine GL_rd (v := .int _ _) (wn_none rfl) rfl (rd_move rfl rfl) ?_
   refine GL_rd (wn_none rfl) rfl (rd_bin rfl rfl rfl (bo_add64 (by omega))) ?_
   refine GL_rd (v := .int _ _) (wn_none rfl) rfl (rd_assign rfl rfl) ?_
   refine GL_nil ?_
   have hp := (((hp.front 2 rfl).front 2 rfl).take 2)
   have hp : Hp w0 [] _ [.row 9 1 v ([bsSuper, bsSuper, bsState, bsMap, bsClasses] ++ List.replicate (i + 1) bsIndex).length (([bsSuper, bsSuper, bsState, bsMap, bsClasses] ++ List.replicate (i + 1) bsIndex).map Value.string), cells g 23 (plC p)] := hp.cast (by rw [str_snoc]; rfl)
   exact ihL0 (i + 1, v) _ _ (by simp only []; omega) ⟨_, slots4 rfl rfl rfl rfl, hp, by omega⟩
  ·(try simp only [decide_eq_true_eq, decide_eq_false_iff_not, Bool.not_eq_true', Bool.not_eq_false', Bool.not_eq_eq_eq_not, Bool.not_true, Bool.not_false, Int.not_lt, Int.not_le] at hb)
   obtain rfl : i = (plN p).toNat := by omega
   refine GW_exit ?_
   refine GW_seq ?_
   refine GW_seq ?_
   refine GW_region ?_
   refine GL_rd (v := .int _ _) (wn_none rfl) rfl (rd_assign rfl rfl) ?_
   refine GL_nil ?_
   refine GW_block ?_
   refine GW_loop ?_
   refine Lp_ind (α := Nat × Value) (fun a_0 f_0 w' => match a_0 with | (i, v) => ∃ fz, f_0 = (upd (upd (upd (upd fz 1 (.pointer (some ⟨g, 0, none⟩))) 3 (v)) 4 (.int .i64 (plN p))) 6 (.int .i64 (i : Int))) ∧ Hp w0 [] w' [.row 9 1 v ([bsSuper, bsSuper, bsState, bsMap, bsClasses] ++ List.replicate (plN p).toNat bsIndex ++ List.replicate i bsText).length (([bsSuper, bsSuper, bsState, bsMap, bsClasses] ++ List.replicate (plN p).toNat bsIndex ++ List.replicate i bsText).map Value.string), cells g 23 (plC p)] ∧ (i ≤ p.t.toNat)) (fun a_0 => match a_0 with | (i, v) => p.t.toNat - i) ?_ (0, v) _ _ ?_
   ·rintro ⟨i, v⟩ f wz ⟨fz, rfl, hp, hi0⟩ ihL1
    refine Lp_round ?_
    refine GW_seq ?_
    refine GW_seq ?_
    refine GW_region ?_
    refine GL_rd (v := .int _ _) (wn_none rfl) rfl (rd_move rfl rfl) ?_
    refine GL_rd (wn_none rfl) rfl (rd_field rfl rfl fa23_1 _ rfl) ?_
    refine GL_rd (wn_none rfl) rfl (rd_load rfl rfl Try.underlying3 rfl ((cell_of_cells (hp.get 1 rfl) _).trans rfl)) ?_
    refine GL_rd (wn_none rfl) rfl (rd_bin rfl rfl rfl bo_lss) ?_
    refine GL_nil ?_
    refine GW_cond rfl (fun hb2 => ?_) (fun hb2 => ?_)
    ·(try simp only [decide_eq_true_eq, decide_eq_false_iff_not, Bool.not_eq_true', Bool.not_eq_false', Bool.not_eq_eq_eq_not, Bool.not_true, Bool.not_false, Int.not_lt, Int.not_le] at hb2)
     refine GW_skip ?_
     refine GW_seq ?_
     refine GW_block ?_
     refine GW_region ?_
     refine GL_rd (v := v) (wn_none rfl) rfl (rd_move rfl rfl) ?_
     refine GL_lit (L := [.string bsText]) (wn_none rfl) rfl rfl Try.underlying40 ts9 tz9 rfl (by kernel_rfl) rfl rfl hp ?_
     intro g4 w hp
     refine GL_append (i := 1) (wn_none rfl) rfl rfl rfl rfl Try.underlying40 ti9 rfl (by decide) hp rfl (Sl.row (hp.get 0 rfl)) (one1 rfl) (by simp only [List.length_append, List.length_replicate, List.length_cons, List.length_nil]; omega) (by simp only [List.length_append, List.length_replicate, List.length_cons, List.length_nil]; omega) ?_
     intro v2 w hp
     refine GL_rd (v := v2) (wn_none rfl) rfl (rd_assign rfl rfl) ?_
     refine GL_nil ?_
     refine GW_region ?_
     refine GL_rd (v := .int _ _) (wn_none rfl) rfl (rd_move rfl rfl) ?_
     refine GL_rd (wn_none rfl) rfl (rd_bin rfl rfl rfl (bo_add64 (by omega))) ?_
     refine GL_rd (v := .int _ _) (wn_none rfl) rfl (rd_assign rfl rfl) ?_
     refine GL_nil ?_
     have hp := (((hp.front 2 rfl).front 2 rfl).take 2)
     have hp : Hp w0 [] _ [.row 9 1 v2 ([bsSuper, bsSuper, bsState, bsMap, bsClasses] ++ List.replicate (plN p).toNat bsIndex ++ List.replicate (i + 1) bsText).length (([bsSuper, bsSuper, bsState, bsMap, bsClasses] ++ List.replicate (plN p).toNat bsIndex ++ List.replicate (i + 1) bsText).map Value.string), cells g 23 (plC p)] := hp.cast (by rw [str_snoc]; rfl)
     exact ihL1 (i + 1, v2) _ _ (by simp only []; omega) ⟨_, slots4 rfl rfl rfl rfl, hp, by omega⟩
    ·(try simp only [decide_eq_true_eq, decide_eq_false_iff_not, Bool.not_eq_true', Bool.not_eq_false', Bool.not_eq_eq_eq_not, Bool.not_true, Bool.not_false, Int.not_lt, Int.not_le] at hb2)
     obtain rfl : i = p.t.toNat := by omega
     refine GW_exit ?_
     refine GW_seq ?_
     refine GW_seq ?_
     refine GW_region ?_
     refine GL_rd (v := .int _ _) (wn_none rfl) rfl (rd_assign rfl rfl) ?_
     refine GL_nil ?_
     refine GW_block ?_
     refine GW_loop ?_
     refine Lp_ind (α := Nat × Value) (fun a_0 f_0 w' => match a_0 with | (i, v) => ∃ fz, f_0 = (upd (upd (upd (upd fz 1 (.pointer (some ⟨g, 0, none⟩))) 3 (v)) 4 (.int .i64 (plN p))) 7 (.int .i64 (i : Int))) ∧ Hp w0 [] w' [.row 9 1 v ([bsSuper, bsSuper, bsState, bsMap, bsClasses] ++ List.replicate (plN p).toNat bsIndex ++ List.replicate p.t.toNat bsText ++ List.replicate i bsClip).length (([bsSuper, bsSuper, bsState, bsMap, bsClasses] ++ List.replicate (plN p).toNat bsIndex ++ List.replicate p.t.toNat bsText ++ List.replicate i bsClip).map Value.string), cells g 23 (plC p)] ∧ (i ≤ p.c.toNat)) (fun a_0 => match a_0 with | (i, v) => p.c.toNat - i) ?_ (0, v) _ _ ?_
     ·rintro ⟨i, v⟩ f wz ⟨fz, rfl, hp, hi0⟩ ihL2
      refine Lp_round ?_
      refine GW_seq ?_
      refine GW_seq ?_
      refine GW_region ?_
      refine GL_rd (v := .int _ _) (wn_none rfl) rfl (rd_move rfl rfl) ?_
      refine GL_rd (wn_none rfl) rfl (rd_field rfl rfl fa23_2 _ rfl) ?_
      refine GL_rd (wn_none rfl) rfl (rd_load rfl rfl Try.underlying3 rfl ((cell_of_cells (hp.get 1 rfl) _).trans rfl)) ?_
      refine GL_rd (wn_none rfl) rfl (rd_bin rfl rfl rfl bo_lss) ?_
      refine GL_nil ?_
      refine GW_cond rfl (fun hb3 => ?_) (fun hb3 => ?_)
      ·(try simp only [decide_eq_true_eq, decide_eq_false_iff_not, Bool.not_eq_true', Bool.not_eq_false', Bool.not_eq_eq_eq_not, Bool.not_true, Bool.not_false, Int.not_lt, Int.not_le] at hb3)
       refine GW_skip ?_
       refine GW_seq ?_
       refine GW_block ?_
       refine GW_region ?_
       refine GL_rd (v := v) (wn_none rfl) rfl (rd_move rfl rfl) ?_
       refine GL_lit (L := [.string bsClip]) (wn_none rfl) rfl rfl Try.underlying40 ts9 tz9 rfl (by kernel_rfl) rfl rfl hp ?_
       intro g5 w hp
       refine GL_append (i := 1) (wn_none rfl) rfl rfl rfl rfl Try.underlying40 ti9 rfl (by decide) hp rfl (Sl.row (hp.get 0 rfl)) (one1 rfl) (by simp only [List.length_append, List.length_replicate, List.length_cons, List.length_nil]; omega) (by simp only [List.length_append, List.length_replicate, List.length_cons, List.length_nil]; omega) ?_
       intro v3 w hp
       refine GL_rd (v := v3) (wn_none rfl) rfl (rd_assign rfl rfl) ?_
       refine GL_nil ?_
       refine GW_region ?_
       refine GL_rd (v := .int _ _) (wn_none rfl) rfl (rd_move rfl rfl) ?_
       refine GL_rd (wn_none rfl) rfl (rd_bin rfl rfl rfl (bo_add64 (by omega))) ?_
       refine GL_rd (v := .int _ _) (wn_none rfl) rfl (rd_assign rfl rfl) ?_
       refine GL_nil ?_
       have hp := (((hp.front 2 rfl).front 2 rfl).take 2)
       have hp : Hp w0 [] _ [.row 9 1 v3 ([bsSuper, bsSuper, bsState, bsMap, bsClasses] ++ List.replicate (plN p).toNat bsIndex ++ List.replicate p.t.toNat bsText ++ List.replicate (i + 1) bsClip).length (([bsSuper, bsSuper, bsState, bsMap, bsClasses] ++ List.replicate (plN p).toNat bsIndex ++ List.replicate p.t.toNat bsText ++ List.replicate (i + 1) bsClip).map Value.string), cells g 23 (plC p)] := hp.cast (by rw [str_snoc]; rfl)
       exact ihL2 (i + 1, v3) _ _ (by simp only []; omega) ⟨_, slots4 rfl rfl rfl rfl, hp, by omega⟩
      ·(try simp only [decide_eq_true_eq, decide_eq_false_iff_not, Bool.not_eq_true', Bool.not_eq_false', Bool.not_eq_eq_eq_not, Bool.not_true, Bool.not_false, Int.not_lt, Int.not_le] at hb3)
       obtain rfl : i = p.c.toNat := by omega
       refine GW_exit ?_
       refine GW_seq ?_
       refine GW_seq ?_
       refine GW_region ?_
       refine GL_rd (v := .int _ _) (wn_none rfl) rfl (rd_assign rfl rfl) ?_
       refine GL_nil ?_
       refine GW_block ?_
       refine GW_loop ?_
       refine Lp_ind (α := Nat × Value) (fun a_0 f_0 w' => match a_0 with | (i, v) => ∃ fz, f_0 = (upd (upd (upd (upd fz 1 (.pointer (some ⟨g, 0, none⟩))) 3 (v)) 4 (.int .i64 (plN p))) 8 (.int .i64 (i : Int))) ∧ Hp w0 [] w' [.row 9 1 v ([bsSuper, bsSuper, bsState, bsMap, bsClasses] ++ List.replicate (plN p).toNat bsIndex ++ List.replicate p.t.toNat bsText ++ List.replicate p.c.toNat bsClip ++ List.replicate i bsAudit).length (([bsSuper, bsSuper, bsState, bsMap, bsClasses] ++ List.replicate (plN p).toNat bsIndex ++ List.replicate p.t.toNat bsText ++ List.replicate p.c.toNat bsClip ++ List.replicate i bsAudit).map Value.string), cells g 23 (plC p)] ∧ (i ≤ p.a.toNat)) (fun a_0 => match a_0 with | (i, v) => p.a.toNat - i) ?_ (0, v) _ _ ?_
       ·rintro ⟨i, v⟩ f wz ⟨fz, rfl, hp, hi0⟩ ihL3
        refine Lp_round ?_
        refine GW_seq ?_
        refine GW_seq ?_
        refine GW_region ?_
        refine GL_rd (v := .int _ _) (wn_none rfl) rfl (rd_move rfl rfl) ?_
        refine GL_rd (wn_none rfl) rfl (rd_field rfl rfl fa23_3 _ rfl) ?_
        refine GL_rd (wn_none rfl) rfl (rd_load rfl rfl Try.underlying3 rfl ((cell_of_cells (hp.get 1 rfl) _).trans rfl)) ?_
        refine GL_rd (wn_none rfl) rfl (rd_bin rfl rfl rfl bo_lss) ?_
        refine GL_nil ?_
        refine GW_cond rfl (fun hb4 => ?_) (fun hb4 => ?_)
        ·(try simp only [decide_eq_true_eq, decide_eq_false_iff_not, Bool.not_eq_true', Bool.not_eq_false', Bool.not_eq_eq_eq_not, Bool.not_true, Bool.not_false, Int.not_lt, Int.not_le] at hb4)
         refine GW_skip ?_
         refine GW_seq ?_
         refine GW_block ?_
         refine GW_region ?_
         refine GL_rd (v := v) (wn_none rfl) rfl (rd_move rfl rfl) ?_
         refine GL_lit (L := [.string bsAudit]) (wn_none rfl) rfl rfl Try.underlying40 ts9 tz9 rfl (by kernel_rfl) rfl rfl hp ?_
         intro g6 w hp
         refine GL_append (i := 1) (wn_none rfl) rfl rfl rfl rfl Try.underlying40 ti9 rfl (by decide) hp rfl (Sl.row (hp.get 0 rfl)) (one1 rfl) (by simp only [List.length_append, List.length_replicate, List.length_cons, List.length_nil]; omega) (by simp only [List.length_append, List.length_replicate, List.length_cons, List.length_nil]; omega) ?_
         intro v4 w hp
         refine GL_rd (v := v4) (wn_none rfl) rfl (rd_assign rfl rfl) ?_
         refine GL_nil ?_
         refine GW_region ?_
         refine GL_rd (v := .int _ _) (wn_none rfl) rfl (rd_move rfl rfl) ?_
         refine GL_rd (wn_none rfl) rfl (rd_bin rfl rfl rfl (bo_add64 (by omega))) ?_
         refine GL_rd (v := .int _ _) (wn_none rfl) rfl (rd_assign rfl rfl) ?_
         refine GL_nil ?_
         have hp := (((hp.front 2 rfl).front 2 rfl).take 2)
         have hp : Hp w0 [] _ [.row 9 1 v4 ([bsSuper, bsSuper, bsState, bsMap, bsClasses] ++ List.replicate (plN p).toNat bsIndex ++ List.replicate p.t.toNat bsText ++ List.replicate p.c.toNat bsClip ++ List.replicate (i + 1) bsAudit).length (([bsSuper, bsSuper, bsState, bsMap, bsClasses] ++ List.replicate (plN p).toNat bsIndex ++ List.replicate p.t.toNat bsText ++ List.replicate p.c.toNat bsClip ++ List.replicate (i + 1) bsAudit).map Value.string), cells g 23 (plC p)] := hp.cast (by rw [str_snoc]; rfl)
         exact ihL3 (i + 1, v4) _ _ (by simp only []; omega) ⟨_, slots4 rfl rfl rfl rfl, hp, by omega⟩
        ·(try simp only [decide_eq_true_eq, decide_eq_false_iff_not, Bool.not_eq_true', Bool.not_eq_false', Bool.not_eq_eq_eq_not, Bool.not_true, Bool.not_false, Int.not_lt, Int.not_le] at hb4)
         obtain rfl : i = p.a.toNat := by omega
         refine GW_exit ?_
         refine GW_seq ?_
         refine GW_region ?_
         refine GL_rd (v := v) (wn_none rfl) rfl (rd_move rfl rfl) ?_
         refine GL_lit (L := [.string bsHead]) (wn_none rfl) rfl rfl Try.underlying40 ts9 tz9 rfl (by kernel_rfl) rfl rfl hp ?_
         intro g7 w hp
         refine GL_append (i := 1) (wn_none rfl) rfl rfl rfl rfl Try.underlying40 ti9 rfl (by decide) hp rfl (Sl.row (hp.get 0 rfl)) (one1 rfl) (by simp only [List.length_append, List.length_replicate, List.length_cons, List.length_nil]; omega) (by simp only [List.length_append, List.length_replicate, List.length_cons, List.length_nil]; omega) ?_
         intro v5 w hp
         refine GL_rd (v := v5) (wn_none rfl) rfl (rd_assign rfl rfl) ?_
         refine GL_nil ?_
         refine GW_seq ?_
         refine GW_seq ?_
         refine GW_region ?_
         refine GL_rd (v := .int _ _) (wn_none rfl) rfl (rd_assign rfl rfl) ?_
         refine GL_nil ?_
         refine GW_block ?_
         refine GW_loop ?_
         refine Lp_ind (α := Nat × Value) (fun a_0 f_0 w' => match a_0 with | (i, v) => ∃ fz, f_0 = (upd (upd (upd (upd fz 1 (.pointer (some ⟨g, 0, none⟩))) 3 (v)) 4 (.int .i64 (plN p))) 9 (.int .i64 (i : Int))) ∧ Hp w0 [] w' [.row 9 1 v ([bsSuper, bsSuper, bsState, bsMap, bsClasses] ++ List.replicate (plN p).toNat bsIndex ++ List.replicate p.t.toNat bsText ++ List.replicate p.c.toNat bsClip ++ List.replicate p.a.toNat bsAudit ++ [bsHead] ++ List.replicate i bsBody).length (([bsSuper, bsSuper, bsState, bsMap, bsClasses] ++ List.replicate (plN p).toNat bsIndex ++ List.replicate p.t.toNat bsText ++ List.replicate p.c.toNat bsClip ++ List.replicate p.a.toNat bsAudit ++ [bsHead] ++ List.replicate i bsBody).map Value.string), cells g 23 (plC p)] ∧ (i ≤ (plRm p).toNat)) (fun a_0 => match a_0 with | (i, v) => (plRm p).toNat - i) ?_ (0, v5) _ _ ?_
         ·rintro ⟨i, v⟩ f wz ⟨fz, rfl, hp, hi0⟩ ihL4
          refine Lp_round ?_
          refine GW_seq ?_
          refine GW_seq ?_
          refine GW_region ?_
          refine GL_rd (v := .int _ _) (wn_none rfl) rfl (rd_move rfl rfl) ?_
          refine GL_rd (v := .int _ _) (wn_none rfl) rfl (rd_move rfl rfl) ?_
          refine GL_rd (wn_none rfl) rfl (rd_bin rfl rfl rfl (bo_add64 (by omega))) ?_
          refine GL_rd (wn_none rfl) rfl (rd_field rfl rfl fa23_1 _ rfl) ?_
          refine GL_rd (wn_none rfl) rfl (rd_load rfl rfl Try.underlying3 rfl ((cell_of_cells (hp.get 1 rfl) _).trans rfl)) ?_
          refine GL_rd (wn_none rfl) rfl (rd_bin rfl rfl rfl (bo_add64 (by omega))) ?_
          refine GL_rd (wn_none rfl) rfl (rd_bin rfl rfl rfl bo_lss) ?_
          refine GL_nil ?_
          refine GW_cond rfl (fun hb5 => ?_) (fun hb5 => ?_)
          ·(try simp only [decide_eq_true_eq, decide_eq_false_iff_not, Bool.not_eq_true', Bool.not_eq_false', Bool.not_eq_eq_eq_not, Bool.not_true, Bool.not_false, Int.not_lt, Int.not_le] at hb5)
           refine GW_skip ?_
           refine GW_seq ?_
           refine GW_block ?_
           refine GW_region ?_
           refine GL_rd (v := v) (wn_none rfl) rfl (rd_move rfl rfl) ?_
           refine GL_lit (L := [.string bsBody]) (wn_none rfl) rfl rfl Try.underlying40 ts9 tz9 rfl (by kernel_rfl) rfl rfl hp ?_
           intro g8 w hp
           refine GL_append (i := 1) (wn_none rfl) rfl rfl rfl rfl Try.underlying40 ti9 rfl (by decide) hp rfl (Sl.row (hp.get 0 rfl)) (one1 rfl) (by simp only [List.length_append, List.length_replicate, List.length_cons, List.length_nil]; omega) (by simp only [List.length_append, List.length_replicate, List.length_cons, List.length_nil]; omega) ?_
           intro v6 w hp
           refine GL_rd (v := v6) (wn_none rfl) rfl (rd_assign rfl rfl) ?_
           refine GL_nil ?_
           refine GW_region ?_
           refine GL_rd (v := .int _ _) (wn_none rfl) rfl (rd_move rfl rfl) ?_
           refine GL_rd (wn_none rfl) rfl (rd_bin rfl rfl rfl (bo_add64 (by omega))) ?_
           refine GL_rd (v := .int _ _) (wn_none rfl) rfl (rd_assign rfl rfl) ?_
           refine GL_nil ?_
           have hp := (((hp.front 2 rfl).front 2 rfl).take 2)
           have hp : Hp w0 [] _ [.row 9 1 v6 ([bsSuper, bsSuper, bsState, bsMap, bsClasses] ++ List.replicate (plN p).toNat bsIndex ++ List.replicate p.t.toNat bsText ++ List.replicate p.c.toNat bsClip ++ List.replicate p.a.toNat bsAudit ++ [bsHead] ++ List.replicate (i + 1) bsBody).length (([bsSuper, bsSuper, bsState, bsMap, bsClasses] ++ List.replicate (plN p).toNat bsIndex ++ List.replicate p.t.toNat bsText ++ List.replicate p.c.toNat bsClip ++ List.replicate p.a.toNat bsAudit ++ [bsHead] ++ List.replicate (i + 1) bsBody).map Value.string), cells g 23 (plC p)] := hp.cast (by rw [str_snoc]; rfl)
           exact ihL4 (i + 1, v6) _ _ (by simp only []; omega) ⟨_, slots4 rfl rfl rfl rfl, hp, by omega⟩
          ·(try simp only [decide_eq_true_eq, decide_eq_false_iff_not, Bool.not_eq_true', Bool.not_eq_false', Bool.not_eq_eq_eq_not, Bool.not_true, Bool.not_false, Int.not_lt, Int.not_le] at hb5)
           obtain rfl : i = (plRm p).toNat := by omega
           refine GW_exit ?_
           refine GW_seq ?_
           refine GW_seq ?_
           refine GW_region ?_
           refine GL_rd (v := .int _ _) (wn_none rfl) rfl (rd_assign rfl rfl) ?_
           refine GL_nil ?_
           refine GW_block ?_
           refine GW_loop ?_
           refine Lp_ind (α := Nat × Value) (fun a_0 f_0 w' => match a_0 with | (i, v) => ∃ fz, f_0 = (upd (upd (upd (upd fz 1 (.pointer (some ⟨g, 0, none⟩))) 3 (v)) 4 (.int .i64 (plN p))) 10 (.int .i64 (i : Int))) ∧ Hp w0 [] w' [.row 9 1 v ([bsSuper, bsSuper, bsState, bsMap, bsClasses] ++ List.replicate (plN p).toNat bsIndex ++ List.replicate p.t.toNat bsText ++ List.replicate p.c.toNat bsClip ++ List.replicate p.a.toNat bsAudit ++ [bsHead] ++ List.replicate (plRm p).toNat bsBody ++ List.replicate i bsSlot).length (([bsSuper, bsSuper, bsState, bsMap, bsClasses] ++ List.replicate (plN p).toNat bsIndex ++ List.replicate p.t.toNat bsText ++ List.replicate p.c.toNat bsClip ++ List.replicate p.a.toNat bsAudit ++ [bsHead] ++ List.replicate (plRm p).toNat bsBody ++ List.replicate i bsSlot).map Value.string), cells g 23 (plC p)] ∧ (i ≤ p.s.toNat)) (fun a_0 => match a_0 with | (i, v) => p.s.toNat - i) ?_ (0, v) _ _ ?_
           ·rintro ⟨i, v⟩ f wz ⟨fz, rfl, hp, hi0⟩ ihL5
            refine Lp_round ?_
            refine GW_seq ?_
            refine GW_seq ?_
            refine GW_region ?_
            refine GL_rd (v := .int _ _) (wn_none rfl) rfl (rd_move rfl rfl) ?_
            refine GL_rd (wn_none rfl) rfl (rd_field rfl rfl fa23_0 _ rfl) ?_
            refine GL_rd (wn_none rfl) rfl (rd_load rfl rfl Try.underlying3 rfl ((cell_of_cells (hp.get 1 rfl) _).trans rfl)) ?_
            refine GL_rd (wn_none rfl) rfl (rd_bin rfl rfl rfl bo_lss) ?_
            refine GL_nil ?_
            refine GW_cond rfl (fun hb6 => ?_) (fun hb6 => ?_)
            ·(try simp only [decide_eq_true_eq, decide_eq_false_iff_not, Bool.not_eq_true', Bool.not_eq_false', Bool.not_eq_eq_eq_not, Bool.not_true, Bool.not_false, Int.not_lt, Int.not_le] at hb6)
             refine GW_skip ?_
             refine GW_seq ?_
             refine GW_block ?_
             refine GW_region ?_
             refine GL_rd (v := v) (wn_none rfl) rfl (rd_move rfl rfl) ?_
             refine GL_lit (L := [.string bsSlot]) (wn_none rfl) rfl rfl Try.underlying40 ts9 tz9 rfl (by kernel_rfl) rfl rfl hp ?_
             intro g9 w hp
             refine GL_append (i := 1) (wn_none rfl) rfl rfl rfl rfl Try.underlying40 ti9 rfl (by decide) hp rfl (Sl.row (hp.get 0 rfl)) (one1 rfl) (by simp only [List.length_append, List.length_replicate, List.length_cons, List.length_nil]; omega) (by simp only [List.length_append, List.length_replicate, List.length_cons, List.length_nil]; omega) ?_
             intro v7 w hp
             refine GL_rd (v := v7) (wn_none rfl) rfl (rd_assign rfl rfl) ?_
             refine GL_nil ?_
             refine GW_region ?_
             refine GL_rd (v := .int _ _) (wn_none rfl) rfl (rd_move rfl rfl) ?_
             refine GL_rd (wn_none rfl) rfl (rd_bin rfl rfl rfl (bo_add64 (by omega))) ?_
             refine GL_rd (v := .int _ _) (wn_none rfl) rfl (rd_assign rfl rfl) ?_
             refine GL_nil ?_
             have hp := (((hp.front 2 rfl).front 2 rfl).take 2)
             have hp : Hp w0 [] _ [.row 9 1 v7 ([bsSuper, bsSuper, bsState, bsMap, bsClasses] ++ List.replicate (plN p).toNat bsIndex ++ List.replicate p.t.toNat bsText ++ List.replicate p.c.toNat bsClip ++ List.replicate p.a.toNat bsAudit ++ [bsHead] ++ List.replicate (plRm p).toNat bsBody ++ List.replicate (i + 1) bsSlot).length (([bsSuper, bsSuper, bsState, bsMap, bsClasses] ++ List.replicate (plN p).toNat bsIndex ++ List.replicate p.t.toNat bsText ++ List.replicate p.c.toNat bsClip ++ List.replicate p.a.toNat bsAudit ++ [bsHead] ++ List.replicate (plRm p).toNat bsBody ++ List.replicate (i + 1) bsSlot).map Value.string), cells g 23 (plC p)] := hp.cast (by rw [str_snoc]; rfl)
             exact ihL5 (i + 1, v7) _ _ (by simp only []; omega) ⟨_, slots4 rfl rfl rfl rfl, hp, by omega⟩
            ·(try simp only [decide_eq_true_eq, decide_eq_false_iff_not, Bool.not_eq_true', Bool.not_eq_false', Bool.not_eq_eq_eq_not, Bool.not_true, Bool.not_false, Int.not_lt, Int.not_le] at hb6)
             obtain rfl : i = p.s.toNat := by omega
             refine GW_exit ?_
             refine GW_seq ?_
             refine GW_region ?_
             refine GL_rd (v := v) (wn_none rfl) rfl (rd_move rfl rfl) ?_
             refine GL_rd (v := v) (wn_none rfl) rfl (rd_assign rfl rfl) ?_
             refine GL_nil ?_
             refine GW_ret ?_
             refine ⟨_, res1 Try.results25 (rv_tmp (v := v) rfl rfl), ?_⟩
             have hp := ((hp.front 0 rfl).take 1)
             exact hp
           ·have hp := (((hp.front 1 rfl).front 1 rfl).take 2)
            have hp : Hp w0 [] _ [.row 9 1 v ([bsSuper, bsSuper, bsState, bsMap, bsClasses] ++ List.replicate (plN p).toNat bsIndex ++ List.replicate p.t.toNat bsText ++ List.replicate p.c.toNat bsClip ++ List.replicate p.a.toNat bsAudit ++ [bsHead] ++ List.replicate (plRm p).toNat bsBody ++ List.replicate 0 bsSlot).length (([bsSuper, bsSuper, bsState, bsMap, bsClasses] ++ List.replicate (plN p).toNat bsIndex ++ List.replicate p.t.toNat bsText ++ List.replicate p.c.toNat bsClip ++ List.replicate p.a.toNat bsAudit ++ [bsHead] ++ List.replicate (plRm p).toNat bsBody ++ List.replicate 0 bsSlot).map Value.string), cells g 23 (plC p)] := hp.cast (by simp <;> omega)
            refine ⟨_, slots4 rfl rfl rfl rfl, hp, Nat.zero_le _⟩
         ·have hp := (((hp.front 2 rfl).front 2 rfl).take 2)
          have hp : Hp w0 [] _ [.row 9 1 v5 ([bsSuper, bsSuper, bsState, bsMap, bsClasses] ++ List.replicate (plN p).toNat bsIndex ++ List.replicate p.t.toNat bsText ++ List.replicate p.c.toNat bsClip ++ List.replicate p.a.toNat bsAudit ++ [bsHead] ++ List.replicate 0 bsBody).length (([bsSuper, bsSuper, bsState, bsMap, bsClasses] ++ List.replicate (plN p).toNat bsIndex ++ List.replicate p.t.toNat bsText ++ List.replicate p.c.toNat bsClip ++ List.replicate p.a.toNat bsAudit ++ [bsHead] ++ List.replicate 0 bsBody).map Value.string), cells g 23 (plC p)] := hp.cast (by simp <;> omega)
          refine ⟨_, slots4 rfl rfl rfl rfl, hp, Nat.zero_le _⟩
       ·have hp := (((hp.front 1 rfl).front 1 rfl).take 2)
        have hp : Hp w0 [] _ [.row 9 1 v ([bsSuper, bsSuper, bsState, bsMap, bsClasses] ++ List.replicate (plN p).toNat bsIndex ++ List.replicate p.t.toNat bsText ++ List.replicate p.c.toNat bsClip ++ List.replicate 0 bsAudit).length (([bsSuper, bsSuper, bsState, bsMap, bsClasses] ++ List.replicate (plN p).toNat bsIndex ++ List.replicate p.t.toNat bsText ++ List.replicate p.c.toNat bsClip ++ List.replicate 0 bsAudit).map Value.string), cells g 23 (plC p)] := hp.cast (by simp <;> omega)
        refine ⟨_, slots4 rfl rfl rfl rfl, hp, Nat.zero_le _⟩
     ·have hp := (((hp.front 1 rfl).front 1 rfl).take 2)
      have hp : Hp w0 [] _ [.row 9 1 v ([bsSuper, bsSuper, bsState, bsMap, bsClasses] ++ List.replicate (plN p).toNat bsIndex ++ List.replicate p.t.toNat bsText ++ List.replicate 0 bsClip).length (([bsSuper, bsSuper, bsState, bsMap, bsClasses] ++ List.replicate (plN p).toNat bsIndex ++ List.replicate p.t.toNat bsText ++ List.replicate 0 bsClip).map Value.string), cells g 23 (plC p)] := hp.cast (by simp <;> omega)
      refine ⟨_, slots4 rfl rfl rfl rfl, hp, Nat.zero_le _⟩
   ·have hp := (((hp.front 1 rfl).front 1 rfl).take 2)
    have hp : Hp w0 [] _ [.row 9 1 v ([bsSuper, bsSuper, bsState, bsMap, bsClasses] ++ List.replicate (plN p).toNat bsIndex ++ List.replicate 0 bsText).length (([bsSuper, bsSuper, bsState, bsMap, bsClasses] ++ List.replicate (plN p).toNat bsIndex ++ List.replicate 0 bsText).map Value.string), cells g 23 (plC p)] := hp.cast (by simp <;> omega)
    refine ⟨_, slots4 rfl rfl rfl rfl, hp, Nat.zero_le _⟩
 ·have hp := (((hp.front 1 rfl).front 1 rfl).take 2)
  have hp : Hp w0 [] _ [.row 9 1 (.slice (some ⟨g2, 0, none⟩) 5 5) ([bsSuper, bsSuper, bsState, bsMap, bsClasses] ++ List.replicate 0 bsIndex).length (([bsSuper, bsSuper, bsState, bsMap, bsClasses] ++ List.replicate 0 bsIndex).map Value.string), cells g 23 (plC p)] := hp.cast (by simp <;> omega)
  refine ⟨_, slots4 rfl rfl rfl rfl, hp, Nat.zero_le _⟩

end Go.Proofs.Ytblpmjbddpadcaa
