/- Walks of functions of the program. -/
import Derived.Test.YtlfepdlbklmmlaaActs
import Derived.Test.YtlfepdlbklmmlaaTypes
import Derived.Test.YtlfepdlbklmmlaaTickS
import Derived.Test.YtlfepdlbklmmlaaFSeal
set_option linter.unusedVariables false
set_option linter.unusedSimpArgs false
namespace Go.Proofs.Ytlfepdlbklmmlaa
open Go.Mo Go.RowKit
theorem tick_Check (now ser : Int) (w0 : World) : Does Try.prog 63 #[.agg ⟨[.int .i64 (now), .int .i64 (ser)]⟩] w0 fun v w' => v = .int .i64 (tickC now ser) ∧ Hp w0 [] w' [] := by
  refine does_of (l := [.agg ⟨[.int .i64 (now), .int .i64 (ser)]⟩]) Try.func63 (by kernel_rfl) rfl Try.ntmps63 rfl rfl ?_
  have hp := Hp.refl w0 []
  refine GW_seq ?_
  refine GW_region ?_
  refine GL_box (wn_none rfl) rfl rfl rfl rfl hp ?_
  intro g w hp
  refine GL_rd (v := .int _ _) (wn_none rfl) rfl (rd_assign rfl rfl) ?_
  refine GL_nil ?_
  refine GW_seq ?_
  refine GW_seq ?_
  refine GW_region ?_
  refine GL_rd (wn_none rfl) rfl (rd_field rfl rfl fa96_0 _ rfl) ?_
  refine GL_rd (wn_none rfl) rfl (rd_load rfl rfl Try.underlying3 rfl ((cell_of_cells (hp.get 0 rfl) _).trans rfl)) ?_
  refine GL_rd (wn_none rfl) rfl (rd_bin rfl rfl rfl bo_lss) ?_
  refine GL_rd (v := .bool _) (wn_none rfl) rfl (rd_move rfl rfl) ?_
  refine GL_split (t := 6) (b := _) rfl ?_ ?_
  · intro hb; (try simp only [decide_eq_true_eq, decide_eq_false_iff_not, Bool.not_eq_true', Bool.not_eq_false', Bool.not_eq_eq_eq_not, Bool.not_true, Bool.not_false, Int.not_lt, Int.not_le] at hb)
    refine GL_pass (nw_off rfl rfl rfl rfl rfl) rfl ?_
    refine GL_pass (nw_off rfl rfl rfl rfl rfl) rfl ?_
    refine GL_pass (nw_off rfl rfl rfl rfl rfl) rfl ?_
    refine GL_rd (v := .bool _) (wn_none rfl) rfl (rd_pickT rfl rfl rfl) ?_
    refine GL_rd (v := .bool _) (wn_none rfl) rfl (rd_move rfl rfl) ?_
    refine GL_pass (nw_off rfl rfl rfl rfl rfl) rfl ?_
    refine GL_pass (nw_off rfl rfl rfl rfl rfl) rfl ?_
    refine GL_pass (nw_off rfl rfl rfl rfl rfl) rfl ?_
    refine GL_rd (v := .bool _) (wn_none rfl) rfl (rd_pickT rfl rfl rfl) ?_
    refine GL_rd (v := .bool _) (wn_none rfl) rfl (rd_move rfl rfl) ?_
    refine GL_pass (nw_off rfl rfl rfl rfl rfl) rfl ?_
    refine GL_pass (nw_off rfl rfl rfl rfl rfl) rfl ?_
    refine GL_pass (nw_off rfl rfl rfl rfl rfl) rfl ?_
    refine GL_rd (v := .bool _) (wn_none rfl) rfl (rd_pickT rfl rfl rfl) ?_
    refine GL_nil ?_
    refine GW_true rfl ?_
    refine GW_seq ?_
    refine GW_region ?_
    refine GL_rd (v := .int _ _) (wn_none rfl) rfl (rd_assign rfl rfl) ?_
    refine GL_nil ?_
    refine GW_ret ?_
    have e : tickOk now ser = false := by simp only [tickOk, decide_eq_true_eq, decide_eq_false_iff_not]; omega
    exact ⟨_, res1 Try.results63 (rv_tmp (v := .int _ _) rfl rfl), by rw [tickC_no e], hp.mods⟩
  · intro hb; (try simp only [decide_eq_true_eq, decide_eq_false_iff_not, Bool.not_eq_true', Bool.not_eq_false', Bool.not_eq_eq_eq_not, Bool.not_true, Bool.not_false, Int.not_lt, Int.not_le] at hb)
    refine GL_rd (wn_on rfl rfl rfl rfl) rfl (rd_field rfl rfl fa96_0 _ rfl) ?_
    refine GL_rd (wn_on rfl rfl rfl rfl) rfl (rd_load rfl rfl Try.underlying3 rfl ((cell_of_cells (hp.get 0 rfl) _).trans rfl)) ?_
    refine GL_rd (wn_on rfl rfl rfl rfl) rfl (rd_bin rfl rfl rfl bo_gtr) ?_
    refine GL_rd (v := .bool _) (wn_none rfl) rfl (rd_pickF rfl rfl rfl) ?_
    refine GL_rd (v := .bool _) (wn_none rfl) rfl (rd_move rfl rfl) ?_
    refine GL_split (t := 11) (b := _) rfl ?_ ?_
    · intro hb2; (try simp only [decide_eq_true_eq, decide_eq_false_iff_not, Bool.not_eq_true', Bool.not_eq_false', Bool.not_eq_eq_eq_not, Bool.not_true, Bool.not_false, Int.not_lt, Int.not_le] at hb2)
      refine GL_pass (nw_off rfl rfl rfl rfl rfl) rfl ?_
      refine GL_pass (nw_off rfl rfl rfl rfl rfl) rfl ?_
      refine GL_pass (nw_off rfl rfl rfl rfl rfl) rfl ?_
      refine GL_rd (v := .bool _) (wn_none rfl) rfl (rd_pickT rfl rfl rfl) ?_
      refine GL_rd (v := .bool _) (wn_none rfl) rfl (rd_move rfl rfl) ?_
      refine GL_pass (nw_off rfl rfl rfl rfl rfl) rfl ?_
      refine GL_pass (nw_off rfl rfl rfl rfl rfl) rfl ?_
      refine GL_pass (nw_off rfl rfl rfl rfl rfl) rfl ?_
      refine GL_rd (v := .bool _) (wn_none rfl) rfl (rd_pickT rfl rfl rfl) ?_
      refine GL_nil ?_
      refine GW_true rfl ?_
      refine GW_seq ?_
      refine GW_region ?_
      refine GL_rd (v := .int _ _) (wn_none rfl) rfl (rd_assign rfl rfl) ?_
      refine GL_nil ?_
      refine GW_ret ?_
      have e : tickOk now ser = false := by simp only [tickOk, decide_eq_true_eq, decide_eq_false_iff_not]; omega
      exact ⟨_, res1 Try.results63 (rv_tmp (v := .int _ _) rfl rfl), by rw [tickC_no e], hp.mods⟩
    · intro hb2; (try simp only [decide_eq_true_eq, decide_eq_false_iff_not, Bool.not_eq_true', Bool.not_eq_false', Bool.not_eq_eq_eq_not, Bool.not_true, Bool.not_false, Int.not_lt, Int.not_le] at hb2)
      refine GL_rd (wn_on rfl rfl rfl rfl) rfl (rd_field rfl rfl fa96_1 _ rfl) ?_
      refine GL_rd (wn_on rfl rfl rfl rfl) rfl (rd_load rfl rfl Try.underlying3 rfl ((cell_of_cells (hp.get 0 rfl) _).trans rfl)) ?_
      refine GL_rd (wn_on rfl rfl rfl rfl) rfl (rd_bin rfl rfl rfl bo_lss) ?_
      refine GL_rd (v := .bool _) (wn_none rfl) rfl (rd_pickF rfl rfl rfl) ?_
      refine GL_rd (v := .bool _) (wn_none rfl) rfl (rd_move rfl rfl) ?_
      refine GL_split (t := 16) (b := _) rfl ?_ ?_
      · intro hb3; (try simp only [decide_eq_true_eq, decide_eq_false_iff_not, Bool.not_eq_true', Bool.not_eq_false', Bool.not_eq_eq_eq_not, Bool.not_true, Bool.not_false, Int.not_lt, Int.not_le] at hb3)
        refine GL_pass (nw_off rfl rfl rfl rfl rfl) rfl ?_
        refine GL_pass (nw_off rfl rfl rfl rfl rfl) rfl ?_
        refine GL_pass (nw_off rfl rfl rfl rfl rfl) rfl ?_
        refine GL_rd (v := .bool _) (wn_none rfl) rfl (rd_pickT rfl rfl rfl) ?_
        refine GL_nil ?_
        refine GW_true rfl ?_
        refine GW_seq ?_
        refine GW_region ?_
        refine GL_rd (v := .int _ _) (wn_none rfl) rfl (rd_assign rfl rfl) ?_
        refine GL_nil ?_
        refine GW_ret ?_
        have e : tickOk now ser = false := by simp only [tickOk, decide_eq_true_eq, decide_eq_false_iff_not]; omega
        exact ⟨_, res1 Try.results63 (rv_tmp (v := .int _ _) rfl rfl), by rw [tickC_no e], hp.mods⟩
      · intro hb3; (try simp only [decide_eq_true_eq, decide_eq_false_iff_not, Bool.not_eq_true', Bool.not_eq_false', Bool.not_eq_eq_eq_not, Bool.not_true, Bool.not_false, Int.not_lt, Int.not_le] at hb3)
        refine GL_rd (wn_on rfl rfl rfl rfl) rfl (rd_field rfl rfl fa96_1 _ rfl) ?_
        refine GL_rd (wn_on rfl rfl rfl rfl) rfl (rd_load rfl rfl Try.underlying3 rfl ((cell_of_cells (hp.get 0 rfl) _).trans rfl)) ?_
        refine GL_rd (wn_on rfl rfl rfl rfl) rfl (rd_bin rfl rfl rfl bo_gtr) ?_
        refine GL_rd (v := .bool _) (wn_none rfl) rfl (rd_pickF rfl rfl rfl) ?_
        refine GL_nil ?_
        refine GW_cond rfl (fun hb4 => ?_) (fun hb4 => ?_)
        · (try simp only [decide_eq_true_eq, decide_eq_false_iff_not, Bool.not_eq_true', Bool.not_eq_false', Bool.not_eq_eq_eq_not, Bool.not_true, Bool.not_false, Int.not_lt, Int.not_le] at hb4)
          refine GW_seq ?_
          refine GW_region ?_
          refine GL_rd (v := .int _ _) (wn_none rfl) rfl (rd_assign rfl rfl) ?_
          refine GL_nil ?_
          refine GW_ret ?_
          have e : tickOk now ser = false := by simp only [tickOk, decide_eq_true_eq, decide_eq_false_iff_not]; omega
          exact ⟨_, res1 Try.results63 (rv_tmp (v := .int _ _) rfl rfl), by rw [tickC_no e], hp.mods⟩
        · (try simp only [decide_eq_true_eq, decide_eq_false_iff_not, Bool.not_eq_true', Bool.not_eq_false', Bool.not_eq_eq_eq_not, Bool.not_true, Bool.not_false, Int.not_lt, Int.not_le] at hb4)
          refine GW_skip ?_
          refine GW_seq ?_
          refine GW_region ?_
          refine GL_rd (v := .int _ _) (wn_none rfl) rfl (rd_assign rfl rfl) ?_
          refine GL_nil ?_
          refine GW_ret ?_
          have e : tickOk now ser = true := by simp only [tickOk, decide_eq_true_eq, decide_eq_false_iff_not]; omega
          exact ⟨_, res1 Try.results63 (rv_tmp (v := .int _ _) rfl rfl), by rw [tickC_yes e], hp.mods⟩

theorem ref_counted (n : Int) (w0 : World) : Does Try.prog 99 #[.int .i64 n] w0 fun v w' => v = .bool (decide (0 ≤ n ∧ n ≤ 1099511627776)) ∧ Hp w0 [] w' [] := by
  refine does_of (l := [.int .i64 n]) Try.func99 (by kernel_rfl) rfl Try.ntmps99 rfl rfl ?_
  have hp := Hp.refl w0 []
  refine GW_seq ?_
  refine GW_region ?_
  refine GL_rd (v := .bool _) (wn_none rfl) rfl (rd_assign rfl rfl) ?_
  refine GL_nil ?_
  refine GW_seq ?_
  refine GW_region ?_
  refine GL_rd (v := .int _ _) (wn_none rfl) rfl (rd_move rfl rfl) ?_
  refine GL_rd (wn_none rfl) rfl (rd_bin rfl rfl rfl bo_geq) ?_
  refine GL_rd (v := .bool _) (wn_none rfl) rfl (rd_move rfl rfl) ?_
  refine GL_split (t := 5) (b := _) rfl ?_ ?_
  · intro hb; (try simp only [decide_eq_true_eq, decide_eq_false_iff_not, Bool.not_eq_true', Bool.not_eq_false', Bool.not_eq_eq_eq_not, Bool.not_true, Bool.not_false, Int.not_lt, Int.not_le] at hb)
    refine GL_rd (v := .int _ _) (wn_on rfl rfl rfl rfl) rfl (rd_move rfl rfl) ?_
    refine GL_rd (wn_on rfl rfl rfl rfl) rfl (rd_bin rfl rfl rfl bo_leq) ?_
    refine GL_rd (v := .bool _) (wn_none rfl) rfl (rd_pickT rfl rfl rfl) ?_
    refine GL_rd (v := .bool _) (wn_none rfl) rfl (rd_assign rfl rfl) ?_
    refine GL_nil ?_
    refine GW_ret ?_
    have e : decide (0 ≤ n ∧ n ≤ 1099511627776) = decide (n ≤ 1099511627776) := by rw [decide_eq_decide]; omega
    exact ⟨_, res1 Try.results99 (rv_tmp (v := .bool _) rfl rfl), by rw [e], hp⟩
  · intro hb; (try simp only [decide_eq_true_eq, decide_eq_false_iff_not, Bool.not_eq_true', Bool.not_eq_false', Bool.not_eq_eq_eq_not, Bool.not_true, Bool.not_false, Int.not_lt, Int.not_le] at hb)
    refine GL_pass (nw_off rfl rfl rfl rfl rfl) rfl ?_
    refine GL_pass (nw_off rfl rfl rfl rfl rfl) rfl ?_
    refine GL_rd (v := .bool _) (wn_none rfl) rfl (rd_pickF rfl rfl rfl) ?_
    refine GL_rd (v := .bool _) (wn_none rfl) rfl (rd_assign rfl rfl) ?_
    refine GL_nil ?_
    refine GW_ret ?_
    have e : decide (0 ≤ n ∧ n ≤ 1099511627776) = false := by rw [decide_eq_false_iff_not]; omega
    exact ⟨_, res1 Try.results99 (rv_tmp (v := .bool _) rfl rfl), by rw [e], hp⟩

theorem ref_tCheck (now ser : Int) (w0 : World) : Does Try.prog 62 #[.int .i64 now, .int .i64 ser] w0 fun v w' => v = .int .i64 (tickC now ser) ∧ Hp w0 [] w' [] := by
  refine does_of (l := [.int .i64 now, .int .i64 ser]) Try.func62 (by kernel_rfl) rfl Try.ntmps62 rfl rfl ?_
  have hp := Hp.refl w0 []
  refine GW_seq ?_
  refine GW_region ?_
  refine GL_rd (v := .int _ _) (wn_none rfl) rfl (rd_assign rfl rfl) ?_
  refine GL_nil ?_
  refine GW_seq ?_
  refine GW_seq ?_
  refine GW_region ?_
  refine GL_rd (v := .int _ _) (wn_none rfl) rfl (rd_move rfl rfl) ?_
  refine GL_call (wn_none rfl) rfl rfl (ref_counted _ _) rfl ?_
  rintro _ w ⟨rfl, hk⟩
  have hp := hp.comp hk
  refine GL_rd (wn_none rfl) rfl (rd_not rfl rfl) ?_
  refine GL_rd (v := .bool _) (wn_none rfl) rfl (rd_move rfl rfl) ?_
  refine GL_split (t := 8) (b := _) rfl ?_ ?_
  · intro hb; (try simp only [decide_eq_true_eq, decide_eq_false_iff_not, Bool.not_eq_true', Bool.not_eq_false', Bool.not_eq_eq_eq_not, Bool.not_true, Bool.not_false, Int.not_lt, Int.not_le] at hb)
    refine GL_pass (nw_off rfl rfl rfl rfl rfl) rfl ?_
    refine GL_pass (nw_off rfl rfl rfl rfl rfl) rfl ?_
    refine GL_pass (nw_off rfl rfl rfl rfl rfl) rfl ?_
    refine GL_rd (v := .bool _) (wn_none rfl) rfl (rd_pickT rfl rfl rfl) ?_
    refine GL_nil ?_
    refine GW_true rfl ?_
    refine GW_seq ?_
    refine GW_region ?_
    refine GL_rd (v := .int _ _) (wn_none rfl) rfl (rd_assign rfl rfl) ?_
    refine GL_nil ?_
    refine GW_ret ?_
    have e : tickOk now ser = false := by simp only [tickOk, decide_eq_true_eq, decide_eq_false_iff_not]; omega
    exact ⟨_, res1 Try.results62 (rv_tmp (v := .int _ _) rfl rfl), by rw [tickC_no e], hp.mods⟩
  · intro hb; (try simp only [decide_eq_true_eq, decide_eq_false_iff_not, Bool.not_eq_true', Bool.not_eq_false', Bool.not_eq_eq_eq_not, Bool.not_true, Bool.not_false, Int.not_lt, Int.not_le] at hb)
    refine GL_rd (v := .int _ _) (wn_on rfl rfl rfl rfl) rfl (rd_move rfl rfl) ?_
    refine GL_call (wn_on rfl rfl rfl rfl) rfl rfl (ref_counted _ _) rfl ?_
    rintro _ w ⟨rfl, hk⟩
    have hp := hp.comp hk
    refine GL_rd (wn_on rfl rfl rfl rfl) rfl (rd_not rfl rfl) ?_
    refine GL_rd (v := .bool _) (wn_none rfl) rfl (rd_pickF rfl rfl rfl) ?_
    refine GL_nil ?_
    refine GW_cond rfl (fun hb2 => ?_) (fun hb2 => ?_)
    · (try simp only [decide_eq_true_eq, decide_eq_false_iff_not, Bool.not_eq_true', Bool.not_eq_false', Bool.not_eq_eq_eq_not, Bool.not_true, Bool.not_false, Int.not_lt, Int.not_le] at hb2)
      refine GW_seq ?_
      refine GW_region ?_
      refine GL_rd (v := .int _ _) (wn_none rfl) rfl (rd_assign rfl rfl) ?_
      refine GL_nil ?_
      refine GW_ret ?_
      have e : tickOk now ser = false := by simp only [tickOk, decide_eq_true_eq, decide_eq_false_iff_not]; omega
      exact ⟨_, res1 Try.results62 (rv_tmp (v := .int _ _) rfl rfl), by rw [tickC_no e], hp.mods⟩
    · (try simp only [decide_eq_true_eq, decide_eq_false_iff_not, Bool.not_eq_true', Bool.not_eq_false', Bool.not_eq_eq_eq_not, Bool.not_true, Bool.not_false, Int.not_lt, Int.not_le] at hb2)
      refine GW_skip ?_
      refine GW_seq ?_
      refine GW_region ?_
      refine GL_rd (v := .int _ _) (wn_none rfl) rfl (rd_assign rfl rfl) ?_
      refine GL_nil ?_
      refine GW_ret ?_
      have e : tickOk now ser = true := by simp only [tickOk, decide_eq_true_eq, decide_eq_false_iff_not]; omega
      exact ⟨_, res1 Try.results62 (rv_tmp (v := .int _ _) rfl rfl), by rw [tickC_yes e], hp.mods⟩

theorem tick_Add (now ser n : Int) (w0 : World) (h0 : 0 ≤ now) (h1 : now ≤ 1099511627776) (hn : -9223372036854775808 ≤ n ∧ n ≤ 9223372036854775807) : Does Try.prog 65 #[.agg ⟨[.int .i64 (now), .int .i64 (ser)]⟩, .int .i64 n] w0 fun v w' => v = .tuple #[.agg ⟨[.int .i64 (addN now n), .int .i64 (ser)]⟩, .int .i64 (addC now n)] ∧ Hp w0 [] w' [] := by
  refine does_of (l := [.agg ⟨[.int .i64 (now), .int .i64 (ser)]⟩, .int .i64 n]) Try.func65 (by kernel_rfl) rfl Try.ntmps65 rfl rfl ?_
  have hp := Hp.refl w0 []
  refine GW_seq ?_
  refine GW_region ?_
  refine GL_box (wn_none rfl) rfl rfl rfl rfl hp ?_
  intro g w hp
  refine GL_alloc (wn_none rfl) rfl rfl tz96 rfl hp ?_
  intro g2 w hp
  refine GL_rd (v := .int _ _) (wn_none rfl) rfl (rd_assign rfl rfl) ?_
  refine GL_nil ?_
  refine GW_seq ?_
  refine GW_seq ?_
  refine GW_region ?_
  refine GL_rd (v := .int _ _) (wn_none rfl) rfl (rd_move rfl rfl) ?_
  refine GL_rd (wn_none rfl) rfl (rd_bin rfl rfl rfl bo_lss) ?_
  refine GL_nil ?_
  refine GW_cond rfl (fun hb => ?_) (fun hb => ?_)
  · (try simp only [decide_eq_true_eq, decide_eq_false_iff_not, Bool.not_eq_true', Bool.not_eq_false', Bool.not_eq_eq_eq_not, Bool.not_true, Bool.not_false, Int.not_lt, Int.not_le] at hb)
    refine GW_seq ?_
    refine GW_region ?_
    refine GL_rd (wn_none rfl) rfl (rd_loadC rfl rfl Try.underlying96 rfl ts96 (hp.get 1 rfl) (by first | rfl | simp [bys_length, *])) ?_
    refine GL_store (i := 0) (wn_none rfl) rfl rfl rfl rfl ts96 rfl rfl (oneC rfl (oneC rfl one0)) hp rfl (by first | exact Nat.le_of_ble_eq_true rfl | simp [bys_length, *]) rfl ?_
    intro w hp
    refine GL_rd (v := .int _ _) (wn_none rfl) rfl (rd_assign rfl rfl) ?_
    refine GL_nil ?_
    refine GW_ret ?_
    have e1 : addC now n = 1 := by unfold addC; (repeat' split) <;> omega
    have e2 : addN now n = now := by unfold addN; (repeat' split) <;> omega
    exact ⟨_, res2 Try.results65 (rv_cell rfl rfl Try.underlying96 rfl ts96 rfl (hp.get 0 rfl)) (rv_tmp (v := .int _ _) rfl rfl), by rw [e1, e2] <;> rfl, hp.mods⟩
  · (try simp only [decide_eq_true_eq, decide_eq_false_iff_not, Bool.not_eq_true', Bool.not_eq_false', Bool.not_eq_eq_eq_not, Bool.not_true, Bool.not_false, Int.not_lt, Int.not_le] at hb)
    refine GW_skip ?_
    refine GW_seq ?_
    refine GW_seq ?_
    refine GW_region ?_
    refine GL_rd (v := .int _ _) (wn_none rfl) rfl (rd_move rfl rfl) ?_
    refine GL_rd (wn_none rfl) rfl (rd_field rfl rfl fa96_0 _ rfl) ?_
    refine GL_rd (wn_none rfl) rfl (rd_load rfl rfl Try.underlying3 rfl ((cell_of_cells (hp.get 1 rfl) _).trans rfl)) ?_
    refine GL_rd (wn_none rfl) rfl (rd_bin rfl rfl rfl (bo_sub64 (by omega))) ?_
    refine GL_rd (wn_none rfl) rfl (rd_bin rfl rfl rfl bo_gtr) ?_
    refine GL_nil ?_
    refine GW_cond rfl (fun hb2 => ?_) (fun hb2 => ?_)
    · (try simp only [decide_eq_true_eq, decide_eq_false_iff_not, Bool.not_eq_true', Bool.not_eq_false', Bool.not_eq_eq_eq_not, Bool.not_true, Bool.not_false, Int.not_lt, Int.not_le] at hb2)
      refine GW_seq ?_
      refine GW_region ?_
      refine GL_rd (wn_none rfl) rfl (rd_loadC rfl rfl Try.underlying96 rfl ts96 (hp.get 1 rfl) (by first | rfl | simp [bys_length, *])) ?_
      refine GL_store (i := 0) (wn_none rfl) rfl rfl rfl rfl ts96 rfl rfl (oneC rfl (oneC rfl one0)) hp rfl (by first | exact Nat.le_of_ble_eq_true rfl | simp [bys_length, *]) rfl ?_
      intro w hp
      refine GL_rd (v := .int _ _) (wn_none rfl) rfl (rd_assign rfl rfl) ?_
      refine GL_nil ?_
      refine GW_ret ?_
      have e1 : addC now n = 2 := by unfold addC; (repeat' split) <;> omega
      have e2 : addN now n = now := by unfold addN; (repeat' split) <;> omega
      exact ⟨_, res2 Try.results65 (rv_cell rfl rfl Try.underlying96 rfl ts96 rfl (hp.get 0 rfl)) (rv_tmp (v := .int _ _) rfl rfl), by rw [e1, e2] <;> rfl, hp.mods⟩
    · (try simp only [decide_eq_true_eq, decide_eq_false_iff_not, Bool.not_eq_true', Bool.not_eq_false', Bool.not_eq_eq_eq_not, Bool.not_true, Bool.not_false, Int.not_lt, Int.not_le] at hb2)
      refine GW_skip ?_
      refine GW_seq ?_
      refine GW_region ?_
      refine GL_rd (wn_none rfl) rfl (rd_field rfl rfl fa96_0 _ rfl) ?_
      refine GL_rd (wn_none rfl) rfl (rd_load rfl rfl Try.underlying3 rfl ((cell_of_cells (hp.get 1 rfl) _).trans rfl)) ?_
      refine GL_rd (v := .int _ _) (wn_none rfl) rfl (rd_move rfl rfl) ?_
      refine GL_rd (wn_none rfl) rfl (rd_bin rfl rfl rfl (bo_add64 (by omega))) ?_
      refine GL_rd (wn_none rfl) rfl (rd_field rfl rfl fa96_0 _ rfl) ?_
      refine GL_store (i := 1) (wn_none rfl) rfl rfl rfl rfl ts3 rfl rfl (one1 rfl) hp rfl (by first | exact Nat.le_of_ble_eq_true rfl | simp [bys_length, *]) rfl ?_
      intro w hp
      refine GL_nil ?_
      refine GW_seq ?_
      refine GW_region ?_
      refine GL_rd (wn_none rfl) rfl (rd_loadC rfl rfl Try.underlying96 rfl ts96 (hp.get 1 rfl) (by first | rfl | simp [bys_length, *])) ?_
      refine GL_store (i := 0) (wn_none rfl) rfl rfl rfl rfl ts96 rfl rfl (oneC rfl (oneC rfl one0)) hp rfl (by first | exact Nat.le_of_ble_eq_true rfl | simp [bys_length, *]) rfl ?_
      intro w hp
      refine GL_rd (v := .int _ _) (wn_none rfl) rfl (rd_assign rfl rfl) ?_
      refine GL_nil ?_
      refine GW_ret ?_
      have e1 : addC now n = 0 := by unfold addC; (repeat' split) <;> omega
      have e2 : addN now n = now + n := by unfold addN; (repeat' split) <;> omega
      exact ⟨_, res2 Try.results65 (rv_cell rfl rfl Try.underlying96 rfl ts96 rfl (hp.get 0 rfl)) (rv_tmp (v := .int _ _) rfl rfl), by rw [e1, e2] <;> rfl, hp.mods⟩

theorem ref_tAdd (now n : Int) (w0 : World) (h0 : 0 ≤ now) (h1 : now ≤ 1099511627776) (hn : -9223372036854775808 ≤ n ∧ n ≤ 9223372036854775807) : Does Try.prog 66 #[.int .i64 now, .int .i64 n] w0 fun v w' => v = .tuple #[.int .i64 (addN now n), .int .i64 (addC now n)] ∧ Hp w0 [] w' [] := by
  refine does_of (l := [.int .i64 now, .int .i64 n]) Try.func66 (by kernel_rfl) rfl Try.ntmps66 rfl rfl ?_
  have hp := Hp.refl w0 []
  refine GW_seq ?_
  refine GW_region ?_
  refine GL_rd (v := .int _ _) (wn_none rfl) rfl (rd_assign rfl rfl) ?_
  refine GL_rd (v := .int _ _) (wn_none rfl) rfl (rd_assign rfl rfl) ?_
  refine GL_nil ?_
  refine GW_seq ?_
  refine GW_seq ?_
  refine GW_region ?_
  refine GL_rd (v := .int _ _) (wn_none rfl) rfl (rd_move rfl rfl) ?_
  refine GL_rd (wn_none rfl) rfl (rd_bin rfl rfl rfl bo_lss) ?_
  refine GL_nil ?_
  refine GW_cond rfl (fun hb => ?_) (fun hb => ?_)
  · (try simp only [decide_eq_true_eq, decide_eq_false_iff_not, Bool.not_eq_true', Bool.not_eq_false', Bool.not_eq_eq_eq_not, Bool.not_true, Bool.not_false, Int.not_lt, Int.not_le] at hb)
    refine GW_seq ?_
    refine GW_region ?_
    refine GL_rd (v := .int _ _) (wn_none rfl) rfl (rd_move rfl rfl) ?_
    refine GL_rd (v := .int _ _) (wn_none rfl) rfl (rd_assign rfl rfl) ?_
    refine GL_rd (v := .int _ _) (wn_none rfl) rfl (rd_assign rfl rfl) ?_
    refine GL_nil ?_
    refine GW_ret ?_
    have e1 : addC now n = 1 := by unfold addC; (repeat' split) <;> omega
    have e2 : addN now n = now := by unfold addN; (repeat' split) <;> omega
    exact ⟨_, res2 Try.results66 (rv_tmp (v := .int _ _) rfl rfl) (rv_tmp (v := .int _ _) rfl rfl), by rw [e1, e2] <;> rfl, hp.mods⟩
  · (try simp only [decide_eq_true_eq, decide_eq_false_iff_not, Bool.not_eq_true', Bool.not_eq_false', Bool.not_eq_eq_eq_not, Bool.not_true, Bool.not_false, Int.not_lt, Int.not_le] at hb)
    refine GW_skip ?_
    refine GW_seq ?_
    refine GW_seq ?_
    refine GW_region ?_
    refine GL_rd (v := .int _ _) (wn_none rfl) rfl (rd_move rfl rfl) ?_
    refine GL_rd (v := .int _ _) (wn_none rfl) rfl (rd_move rfl rfl) ?_
    refine GL_rd (wn_none rfl) rfl (rd_bin rfl rfl rfl (bo_sub64 (by omega))) ?_
    refine GL_rd (wn_none rfl) rfl (rd_bin rfl rfl rfl bo_gtr) ?_
    refine GL_nil ?_
    refine GW_cond rfl (fun hb2 => ?_) (fun hb2 => ?_)
    · (try simp only [decide_eq_true_eq, decide_eq_false_iff_not, Bool.not_eq_true', Bool.not_eq_false', Bool.not_eq_eq_eq_not, Bool.not_true, Bool.not_false, Int.not_lt, Int.not_le] at hb2)
      refine GW_seq ?_
      refine GW_region ?_
      refine GL_rd (v := .int _ _) (wn_none rfl) rfl (rd_move rfl rfl) ?_
      refine GL_rd (v := .int _ _) (wn_none rfl) rfl (rd_assign rfl rfl) ?_
      refine GL_rd (v := .int _ _) (wn_none rfl) rfl (rd_assign rfl rfl) ?_
      refine GL_nil ?_
      refine GW_ret ?_
      have e1 : addC now n = 2 := by unfold addC; (repeat' split) <;> omega
      have e2 : addN now n = now := by unfold addN; (repeat' split) <;> omega
      exact ⟨_, res2 Try.results66 (rv_tmp (v := .int _ _) rfl rfl) (rv_tmp (v := .int _ _) rfl rfl), by rw [e1, e2] <;> rfl, hp.mods⟩
    · (try simp only [decide_eq_true_eq, decide_eq_false_iff_not, Bool.not_eq_true', Bool.not_eq_false', Bool.not_eq_eq_eq_not, Bool.not_true, Bool.not_false, Int.not_lt, Int.not_le] at hb2)
      refine GW_skip ?_
      refine GW_seq ?_
      refine GW_region ?_
      refine GL_rd (v := .int _ _) (wn_none rfl) rfl (rd_move rfl rfl) ?_
      refine GL_rd (v := .int _ _) (wn_none rfl) rfl (rd_move rfl rfl) ?_
      refine GL_rd (wn_none rfl) rfl (rd_bin rfl rfl rfl (bo_add64 (by omega))) ?_
      refine GL_rd (v := .int _ _) (wn_none rfl) rfl (rd_assign rfl rfl) ?_
      refine GL_rd (v := .int _ _) (wn_none rfl) rfl (rd_assign rfl rfl) ?_
      refine GL_nil ?_
      refine GW_ret ?_
      have e1 : addC now n = 0 := by unfold addC; (repeat' split) <;> omega
      have e2 : addN now n = now + n := by unfold addN; (repeat' split) <;> omega
      exact ⟨_, res2 Try.results66 (rv_tmp (v := .int _ _) rfl rfl) (rv_tmp (v := .int _ _) rfl rfl), by rw [e1, e2] <;> rfl, hp.mods⟩

theorem tick_Deed (now ser : Int) (w0 : World) (h0 : -9223372036854775808 ≤ ser) : Does Try.prog 67 #[.agg ⟨[.int .i64 (now), .int .i64 (ser)]⟩] w0 fun v w' => v = .tuple #[.agg ⟨[.int .i64 (now), .int .i64 (deedN ser)]⟩, .int .i64 (deedC ser)] ∧ Hp w0 [] w' [] := by
  refine does_of (l := [.agg ⟨[.int .i64 (now), .int .i64 (ser)]⟩]) Try.func67 (by kernel_rfl) rfl Try.ntmps67 rfl rfl ?_
  have hp := Hp.refl w0 []
  refine GW_seq ?_
  refine GW_region ?_
  refine GL_box (wn_none rfl) rfl rfl rfl rfl hp ?_
  intro g w hp
  refine GL_alloc (wn_none rfl) rfl rfl tz96 rfl hp ?_
  intro g2 w hp
  refine GL_rd (v := .int _ _) (wn_none rfl) rfl (rd_assign rfl rfl) ?_
  refine GL_nil ?_
  refine GW_seq ?_
  refine GW_seq ?_
  refine GW_region ?_
  refine GL_rd (wn_none rfl) rfl (rd_field rfl rfl fa96_1 _ rfl) ?_
  refine GL_rd (wn_none rfl) rfl (rd_load rfl rfl Try.underlying3 rfl ((cell_of_cells (hp.get 1 rfl) _).trans rfl)) ?_
  refine GL_rd (wn_none rfl) rfl (rd_bin rfl rfl rfl bo_geq) ?_
  refine GL_nil ?_
  refine GW_cond rfl (fun hb => ?_) (fun hb => ?_)
  · (try simp only [decide_eq_true_eq, decide_eq_false_iff_not, Bool.not_eq_true', Bool.not_eq_false', Bool.not_eq_eq_eq_not, Bool.not_true, Bool.not_false, Int.not_lt, Int.not_le] at hb)
    refine GW_seq ?_
    refine GW_region ?_
    refine GL_rd (wn_none rfl) rfl (rd_loadC rfl rfl Try.underlying96 rfl ts96 (hp.get 1 rfl) (by first | rfl | simp [bys_length, *])) ?_
    refine GL_store (i := 0) (wn_none rfl) rfl rfl rfl rfl ts96 rfl rfl (oneC rfl (oneC rfl one0)) hp rfl (by first | exact Nat.le_of_ble_eq_true rfl | simp [bys_length, *]) rfl ?_
    intro w hp
    refine GL_rd (v := .int _ _) (wn_none rfl) rfl (rd_assign rfl rfl) ?_
    refine GL_nil ?_
    refine GW_ret ?_
    have e1 : deedC ser = 7 := by unfold deedC; split <;> omega
    have e2 : deedN ser = ser := by unfold deedN; split <;> omega
    exact ⟨_, res2 Try.results67 (rv_cell rfl rfl Try.underlying96 rfl ts96 rfl (hp.get 0 rfl)) (rv_tmp (v := .int _ _) rfl rfl), by rw [e1, e2] <;> rfl, hp.mods⟩
  · (try simp only [decide_eq_true_eq, decide_eq_false_iff_not, Bool.not_eq_true', Bool.not_eq_false', Bool.not_eq_eq_eq_not, Bool.not_true, Bool.not_false, Int.not_lt, Int.not_le] at hb)
    refine GW_skip ?_
    refine GW_seq ?_
    refine GW_region ?_
    refine GL_rd (wn_none rfl) rfl (rd_field rfl rfl fa96_1 _ rfl) ?_
    refine GL_rd (wn_none rfl) rfl (rd_load rfl rfl Try.underlying3 rfl ((cell_of_cells (hp.get 1 rfl) _).trans rfl)) ?_
    refine GL_rd (wn_none rfl) rfl (rd_bin rfl rfl rfl (bo_add64 (by omega))) ?_
    refine GL_rd (wn_none rfl) rfl (rd_field rfl rfl fa96_1 _ rfl) ?_
    refine GL_store (i := 1) (wn_none rfl) rfl rfl rfl rfl ts3 rfl rfl (one1 rfl) hp rfl (by first | exact Nat.le_of_ble_eq_true rfl | simp [bys_length, *]) rfl ?_
    intro w hp
    refine GL_nil ?_
    refine GW_seq ?_
    refine GW_region ?_
    refine GL_rd (wn_none rfl) rfl (rd_loadC rfl rfl Try.underlying96 rfl ts96 (hp.get 1 rfl) (by first | rfl | simp [bys_length, *])) ?_
    refine GL_store (i := 0) (wn_none rfl) rfl rfl rfl rfl ts96 rfl rfl (oneC rfl (oneC rfl one0)) hp rfl (by first | exact Nat.le_of_ble_eq_true rfl | simp [bys_length, *]) rfl ?_
    intro w hp
    refine GL_rd (v := .int _ _) (wn_none rfl) rfl (rd_assign rfl rfl) ?_
    refine GL_nil ?_
    refine GW_ret ?_
    have e1 : deedC ser = 0 := by unfold deedC; split <;> omega
    have e2 : deedN ser = ser + 1 := by unfold deedN; split <;> omega
    exact ⟨_, res2 Try.results67 (rv_cell rfl rfl Try.underlying96 rfl ts96 rfl (hp.get 0 rfl)) (rv_tmp (v := .int _ _) rfl rfl), by rw [e1, e2] <;> rfl, hp.mods⟩

theorem tick_Time (now ser : Int) (w0 : World) : Does Try.prog 100 #[.agg ⟨[.int .i64 (now), .int .i64 (ser)]⟩] w0 fun v w' => v = .int .i64 now ∧ Hp w0 [] w' [] := by
  refine does_of (l := [.agg ⟨[.int .i64 (now), .int .i64 (ser)]⟩]) Try.func100 (by kernel_rfl) rfl Try.ntmps100 rfl rfl ?_
  have hp := Hp.refl w0 []
  refine GW_seq ?_
  refine GW_region ?_
  refine GL_box (wn_none rfl) rfl rfl rfl rfl hp ?_
  intro g w hp
  refine GL_rd (v := .int _ _) (wn_none rfl) rfl (rd_assign rfl rfl) ?_
  refine GL_nil ?_
  refine GW_seq ?_
  refine GW_region ?_
  refine GL_rd (wn_none rfl) rfl (rd_field rfl rfl fa96_0 _ rfl) ?_
  refine GL_rd (wn_none rfl) rfl (rd_load rfl rfl Try.underlying3 rfl ((cell_of_cells (hp.get 0 rfl) _).trans rfl)) ?_
  refine GL_rd (v := .int _ _) (wn_none rfl) rfl (rd_assign rfl rfl) ?_
  refine GL_nil ?_
  refine GW_ret ?_
  exact ⟨_, res1 Try.results100 (rv_tmp (v := .int _ _) rfl rfl), rfl, hp.mods⟩

theorem tick_FTime (now : Int) (w0 : World) : Does Try.prog 137 #[.int .i64 now] w0 fun v w' => v = .int .i64 now ∧ Hp w0 [] w' [] := by
  refine does_of (l := [.int .i64 now]) Try.func137 (by kernel_rfl) rfl Try.ntmps137 rfl rfl ?_
  have hp := Hp.refl w0 []
  refine GW_seq ?_
  refine GW_region ?_
  refine GL_rd (v := .int _ _) (wn_none rfl) rfl (rd_assign rfl rfl) ?_
  refine GL_nil ?_
  refine GW_seq ?_
  refine GW_region ?_
  refine GL_rd (v := .int _ _) (wn_none rfl) rfl (rd_move rfl rfl) ?_
  refine GL_rd (v := .int _ _) (wn_none rfl) rfl (rd_assign rfl rfl) ?_
  refine GL_nil ?_
  refine GW_ret ?_
  exact ⟨_, res1 Try.results137 (rv_tmp (v := .int _ _) rfl rfl), rfl, hp.mods⟩

theorem tick_Put (now ser : Int) (w0 : World) : Does Try.prog 68 #[.agg ⟨[.int .i64 (now), .int .i64 (ser)]⟩] w0 fun v w' => v = .tuple #[.agg ⟨bys (tickS now ser)⟩, .int .i64 (tickC now ser)] ∧ Hp w0 [] w' [] := by
  refine does_of (l := [.agg ⟨[.int .i64 (now), .int .i64 (ser)]⟩]) Try.func68 (by kernel_rfl) rfl Try.ntmps68 rfl rfl ?_
  have hp := Hp.refl w0 []
  refine GW_seq ?_
  refine GW_region ?_
  refine GL_box (wn_none rfl) rfl rfl rfl rfl hp ?_
  intro g w hp
  refine GL_alloc (wn_none rfl) rfl rfl tz35 rfl hp ?_
  intro g2 w hp
  refine GL_rd (v := .int _ _) (wn_none rfl) rfl (rd_assign rfl rfl) ?_
  refine GL_nil ?_
  refine GW_seq ?_
  refine GW_seq ?_
  refine GW_region ?_
  refine GL_rd (wn_none rfl) rfl (rd_loadC rfl rfl Try.underlying96 rfl ts96 (hp.get 1 rfl) (by first | rfl | simp [bys_length, *])) ?_
  refine GL_call (wn_none rfl) rfl rfl (tick_Check now ser _) rfl ?_
  rintro _ w ⟨rfl, hk⟩
  have hp := hp.comp hk
  refine GL_rd (v := .int _ _) (wn_none rfl) rfl (rd_assign rfl rfl) ?_
  refine GL_nil ?_
  refine GW_seq ?_
  refine GW_region ?_
  refine GL_rd (v := .int _ _) (wn_none rfl) rfl (rd_move rfl rfl) ?_
  refine GL_rd (wn_none rfl) rfl (rd_bin rfl rfl rfl bo_neq) ?_
  refine GL_nil ?_
  refine GW_cond rfl (fun hb => ?_) (fun hb => ?_)
  · (try simp only [decide_eq_true_eq, decide_eq_false_iff_not, Bool.not_eq_true', Bool.not_eq_false', Bool.not_eq_eq_eq_not, Bool.not_true, Bool.not_false, Int.not_lt, Int.not_le] at hb)
    have hno : tickOk now ser = false := by cases hq : tickOk now ser with | false => rfl | true => exact absurd (tickC_yes hq) hb
    refine GW_seq ?_
    refine GW_region ?_
    refine GL_rd (wn_none rfl) rfl (rd_buildA (L := List.replicate 256 (.int .u8 0)) rfl tz35 Try.underlying35 ts5 (by kernel_rfl)) ?_
    refine GL_rd (v := .int _ _) (wn_none rfl) rfl (rd_move rfl rfl) ?_
    refine GL_store (i := 0) (wn_none rfl) rfl rfl rfl rfl ts35 rfl List.length_replicate (by intro u hu; rw [List.eq_of_mem_replicate hu]; rfl) hp rfl (by rw [List.length_replicate]; decide) (splice_all _ _ rfl) ?_
    intro w hp
    refine GL_rd (v := .int _ _) (wn_none rfl) rfl (rd_assign rfl rfl) ?_
    refine GL_nil ?_
    refine GW_ret ?_
    exact ⟨_, res2 Try.results68 (rv_cell rfl rfl Try.underlying35 rfl ts35 (by first | rw [bys_length, tickS_length] | exact List.length_replicate) (hp.get 0 rfl)) (rv_tmp (v := .int _ _) rfl rfl), by rw [tickS, if_neg (by rw [hno]; decide), bys_replicate] <;> rfl, hp.mods⟩
  · (try simp only [decide_eq_true_eq, decide_eq_false_iff_not, Bool.not_eq_true', Bool.not_eq_false', Bool.not_eq_eq_eq_not, Bool.not_true, Bool.not_false, Int.not_lt, Int.not_le] at hb)
    have hok := tickC_zero.1 hb
    have hok2 := hok
    simp only [tickOk, decide_eq_true_eq] at hok2
    refine GW_skip ?_
    refine GW_seq ?_
    refine GW_region ?_
    refine GL_lit (L := bys [84, 73, 67, 75]) (wn_none rfl) rfl rfl Try.underlying23 ts5 tz5 rfl (by kernel_rfl) rfl rfl hp ?_
    intro g3 w hp
    refine GL_convB (i := 0) (wn_none rfl) rfl rfl rfl Try.underlying23 Try.underlying5 hp rfl ?_
    intro w hp
    refine GL_rd (wn_none rfl) rfl (rd_field rfl rfl fa96_0 _ rfl) ?_
    refine GL_rd (wn_none rfl) rfl (rd_load rfl rfl Try.underlying3 rfl ((cell_of_cells (hp.get 2 rfl) _).trans rfl)) ?_
    refine GL_rd (wn_none rfl) rfl (rd_convE (q := (now.toNat : Int)) rfl rfl Try.underlying22 Try.underlying3 (by simp) (by rw [IntWalk.u64_in _ (by omega)]; omega)) ?_
    refine GL_call (wn_none rfl) rfl rfl (word_Put now.toNat 8 _ (by omega) (by decide)) rfl ?_
    rintro _ w ⟨q, rfl, hk⟩
    have hp := hp.comp hk
    refine GL_appendFull (wn_none rfl) rfl rfl rfl rfl Try.underlying23 ti5 rfl (by decide) hp (Sl.blk (hp.get 1 rfl) 1 _ rfl (by simp [maxLen])) (Sl.row (hp.get 0 rfl)) (by omega) (by decide) (by omega) (by omega) (by omega) ?_
    intro v w hp
    rw [← bys_append] at hp
    refine GL_rd (v := v) (wn_none rfl) rfl (rd_assign rfl rfl) ?_
    refine GL_nil ?_
    refine GW_seq ?_
    refine GW_region ?_
    refine GL_rd (v := v) (wn_none rfl) rfl (rd_move rfl rfl) ?_
    refine GL_rd (wn_none rfl) rfl (rd_field rfl rfl fa96_1 _ rfl) ?_
    refine GL_rd (wn_none rfl) rfl (rd_load rfl rfl Try.underlying3 rfl ((cell_of_cells (hp.get 4 rfl) _).trans rfl)) ?_
    refine GL_rd (wn_none rfl) rfl (rd_convE (q := (ser.toNat : Int)) rfl rfl Try.underlying22 Try.underlying3 (by simp) (by rw [IntWalk.u64_in _ (by omega)]; omega)) ?_
    refine GL_call (wn_none rfl) rfl rfl (word_Put ser.toNat 8 _ (by omega) (by decide)) rfl ?_
    rintro _ w ⟨q2, rfl, hk⟩
    have hp := hp.comp hk
    refine GL_append (i := 1) (wn_none rfl) rfl rfl rfl rfl Try.underlying23 ti5 rfl (by decide) hp rfl (Sl.row (hp.get 0 rfl)) (bys_one _) (by omega) (by omega) ?_
    intro v2 w hp
    rw [← bys_append] at hp
    refine GL_call (wn_none rfl) rfl rfl (word_Whole _ _ ([84, 73, 67, 75] ++ putL now.toNat 8 ++ putL ser.toNat 8) _ (Sl.row (hp.get 1 rfl))) rfl ?_
    rintro _ w ⟨rfl, hk⟩
    have hp := hp.comp hk
    refine GL_alloc (wn_none rfl) rfl rfl tz35 rfl hp ?_
    intro g4 w hp
    refine GL_store (i := 0) (wn_none rfl) rfl rfl rfl rfl ts35 rfl (by rw [bys_length, wholeL_length]) (bys_one _) hp rfl (by rw [List.length_replicate]; omega) (splice_all _ _ (by rw [bys_length, wholeL_length, List.length_replicate])) ?_
    intro w hp
    refine GL_nil ?_
    refine GW_seq ?_
    refine GW_region ?_
    refine GL_rd (wn_none rfl) rfl (rd_sliceA (lo := 0) (hi := 252) rfl rfl Try.underlying35 ts5 at_none (at_some rfl rfl) (by decide) (by decide) (by decide) _ rfl) ?_
    refine GL_call (wn_none rfl) rfl rfl (crc_Sealed _ 252 ((wholeL ([84, 73, 67, 75] ++ putL now.toNat 8 ++ putL ser.toNat 8)).take 252) _ (Sl.cells (hp.get 0 rfl) 1 252 256 0 (bys ((wholeL ([84, 73, 67, 75] ++ putL now.toNat 8 ++ putL ser.toNat 8)).take 252)) (by rw [List.drop_zero, Nat.mul_one]; exact (bys_take _ _).symm) (by rw [bys_length, wholeL_length]; decide) (by decide) (by decide)) (by decide)) rfl ?_
    intro vS w hk
    have hp := hp.comp hk
    refine GL_call (wn_none rfl) rfl rfl (word_Whole _ _ _ _ (Sl.row (hp.get 0 rfl))) rfl ?_
    rintro _ w ⟨rfl, hk⟩
    have hp := hp.comp hk
    refine GL_store (i := 6) (wn_none rfl) rfl rfl rfl rfl ts35 rfl (by rw [bys_length, wholeL_length]) (bys_one _) hp rfl (by rw [List.length_replicate]; omega) ((splice_all _ _ (by rw [bys_length, wholeL_length, List.length_replicate])).trans (by rw [tick_made hok])) ?_
    intro w hp
    refine GL_rd (v := .int _ _) (wn_none rfl) rfl (rd_assign rfl rfl) ?_
    refine GL_nil ?_
    refine GW_ret ?_
    exact ⟨_, res2 Try.results68 (rv_cell rfl rfl Try.underlying35 rfl ts35 (by first | rw [bys_length, tickS_length] | exact List.length_replicate) (hp.get 6 rfl)) (rv_tmp (v := .int _ _) rfl rfl), by rw [tickC_yes hok], hp.mods⟩

theorem ref_tPut (now ser : Int) (w0 : World) : Does Try.prog 69 #[.int .i64 now, .int .i64 ser] w0 fun v w' => v = .tuple #[.agg ⟨bys (tickS now ser)⟩, .int .i64 (tickC now ser)] ∧ Hp w0 [] w' [] := by
  refine does_of (l := [.int .i64 now, .int .i64 ser]) Try.func69 (by kernel_rfl) rfl Try.ntmps69 rfl rfl ?_
  have hp := Hp.refl w0 []
  refine GW_seq ?_
  refine GW_region ?_
  refine GL_alloc (wn_none rfl) rfl rfl tz35 rfl hp ?_
  intro g w hp
  refine GL_rd (v := .int _ _) (wn_none rfl) rfl (rd_assign rfl rfl) ?_
  refine GL_nil ?_
  refine GW_seq ?_
  refine GW_seq ?_
  refine GW_region ?_
  refine GL_rd (v := .int _ _) (wn_none rfl) rfl (rd_move rfl rfl) ?_
  refine GL_rd (v := .int _ _) (wn_none rfl) rfl (rd_move rfl rfl) ?_
  refine GL_call (wn_none rfl) rfl rfl (ref_tCheck now ser _) rfl ?_
  rintro _ w ⟨rfl, hk⟩
  have hp := hp.comp hk
  refine GL_rd (v := .int _ _) (wn_none rfl) rfl (rd_assign rfl rfl) ?_
  refine GL_nil ?_
  refine GW_seq ?_
  refine GW_region ?_
  refine GL_rd (v := .int _ _) (wn_none rfl) rfl (rd_move rfl rfl) ?_
  refine GL_rd (wn_none rfl) rfl (rd_bin rfl rfl rfl bo_neq) ?_
  refine GL_nil ?_
  refine GW_cond rfl (fun hb => ?_) (fun hb => ?_)
  · (try simp only [decide_eq_true_eq, decide_eq_false_iff_not, Bool.not_eq_true', Bool.not_eq_false', Bool.not_eq_eq_eq_not, Bool.not_true, Bool.not_false, Int.not_lt, Int.not_le] at hb)
    have hno : tickOk now ser = false := by cases hq : tickOk now ser with | false => rfl | true => exact absurd (tickC_yes hq) hb
    refine GW_seq ?_
    refine GW_region ?_
    refine GL_rd (wn_none rfl) rfl (rd_buildA (L := List.replicate 256 (.int .u8 0)) rfl tz35 Try.underlying35 ts5 (by kernel_rfl)) ?_
    refine GL_rd (v := .int _ _) (wn_none rfl) rfl (rd_move rfl rfl) ?_
    refine GL_store (i := 0) (wn_none rfl) rfl rfl rfl rfl ts35 rfl List.length_replicate (by intro u hu; rw [List.eq_of_mem_replicate hu]; rfl) hp rfl (by rw [List.length_replicate]; decide) (splice_all _ _ rfl) ?_
    intro w hp
    refine GL_rd (v := .int _ _) (wn_none rfl) rfl (rd_assign rfl rfl) ?_
    refine GL_nil ?_
    refine GW_ret ?_
    exact ⟨_, res2 Try.results69 (rv_cell rfl rfl Try.underlying35 rfl ts35 (by first | rw [bys_length, tickS_length] | exact List.length_replicate) (hp.get 0 rfl)) (rv_tmp (v := .int _ _) rfl rfl), by rw [tickS, if_neg (by rw [hno]; decide), bys_replicate] <;> rfl, hp.mods⟩
  · (try simp only [decide_eq_true_eq, decide_eq_false_iff_not, Bool.not_eq_true', Bool.not_eq_false', Bool.not_eq_eq_eq_not, Bool.not_true, Bool.not_false, Int.not_lt, Int.not_le] at hb)
    have hok := tickC_zero.1 hb
    have hok2 := hok
    simp only [tickOk, decide_eq_true_eq] at hok2
    refine GW_skip ?_
    refine GW_seq ?_
    refine GW_region ?_
    refine GL_lit (L := bys [84, 73, 67, 75]) (wn_none rfl) rfl rfl Try.underlying23 ts5 tz5 rfl (by kernel_rfl) rfl rfl hp ?_
    intro g2 w hp
    refine GL_convB (i := 0) (wn_none rfl) rfl rfl rfl Try.underlying23 Try.underlying5 hp rfl ?_
    intro w hp
    refine GL_rd (v := .slice _ _ _) (wn_none rfl) rfl (rd_assign rfl rfl) ?_
    refine GL_nil ?_
    refine GW_seq ?_
    refine GW_region ?_
    refine GL_rd (v := .slice _ _ _) (wn_none rfl) rfl (rd_move rfl rfl) ?_
    refine GL_rd (v := .int _ _) (wn_none rfl) rfl (rd_move rfl rfl) ?_
    refine GL_rd (wn_none rfl) rfl (rd_convE (q := (now.toNat : Int)) rfl rfl Try.underlying22 Try.underlying3 (by simp) (by rw [IntWalk.u64_in _ (by omega)]; omega)) ?_
    refine GL_call (wn_none rfl) rfl rfl (ref_Put 8 now.toNat 8 _ (by omega) (by decide) rfl) rfl ?_
    intro q w hk
    have hp := hp.comp hk
    refine GL_appendFull (wn_none rfl) rfl rfl rfl rfl Try.underlying23 ti5 rfl (by decide) hp (Sl.blk (hp.get 1 rfl) 1 _ rfl (by simp [maxLen])) (Sl.row (hp.get 0 rfl)) (by omega) (by decide) (by omega) (by omega) (by omega) ?_
    intro v w hp
    rw [← bys_append] at hp
    refine GL_rd (v := v) (wn_none rfl) rfl (rd_assign rfl rfl) ?_
    refine GL_nil ?_
    refine GW_seq ?_
    refine GW_region ?_
    refine GL_rd (v := v) (wn_none rfl) rfl (rd_move rfl rfl) ?_
    refine GL_rd (v := .int _ _) (wn_none rfl) rfl (rd_move rfl rfl) ?_
    refine GL_rd (wn_none rfl) rfl (rd_convE (q := (ser.toNat : Int)) rfl rfl Try.underlying22 Try.underlying3 (by simp) (by rw [IntWalk.u64_in _ (by omega)]; omega)) ?_
    refine GL_call (wn_none rfl) rfl rfl (ref_Put 8 ser.toNat 8 _ (by omega) (by decide) rfl) rfl ?_
    intro q2 w hk
    have hp := hp.comp hk
    refine GL_append (i := 1) (wn_none rfl) rfl rfl rfl rfl Try.underlying23 ti5 rfl (by decide) hp rfl (Sl.row (hp.get 0 rfl)) (bys_one _) (by omega) (by omega) ?_
    intro v2 w hp
    rw [← bys_append] at hp
    refine GL_rd (v := v2) (wn_none rfl) rfl (rd_assign rfl rfl) ?_
    refine GL_nil ?_
    refine GW_seq ?_
    refine GW_region ?_
    refine GL_rd (v := v2) (wn_none rfl) rfl (rd_move rfl rfl) ?_
    refine GL_call (wn_none rfl) rfl rfl (ref_Sealed _ _ ([84, 73, 67, 75] ++ putL now.toNat 8 ++ putL ser.toNat 8) _ (Sl.row (hp.get 1 rfl)) (by omega)) rfl ?_
    rintro _ w ⟨rfl, hk⟩
    have hp := hp.comp hk
    refine GL_store (i := 4) (wn_none rfl) rfl rfl rfl rfl ts35 rfl (by rw [bys_length, secL_length]) (bys_one _) hp rfl (by rw [List.length_replicate]; omega) ((splice_all _ _ (by rw [bys_length, secL_length, List.length_replicate])).trans (congrArg bys (tickS_ok hok))) ?_
    intro w hp
    refine GL_rd (v := .int _ _) (wn_none rfl) rfl (rd_assign rfl rfl) ?_
    refine GL_nil ?_
    refine GW_ret ?_
    exact ⟨_, res2 Try.results69 (rv_cell rfl rfl Try.underlying35 rfl ts35 (by first | rw [bys_length, tickS_length] | exact List.length_replicate) (hp.get 4 rfl)) (rv_tmp (v := .int _ _) rfl rfl), by rw [tickC_yes hok], hp.mods⟩

theorem tick_Get (x : List UInt8) (w0 : World) (hx : x.length = 256) : Does Try.prog 70 #[.agg ⟨bys x⟩] w0 fun v w' => v = .tuple #[.agg ⟨tickV (tickG x)⟩, .int .i64 (tickE (tickG x))] ∧ Hp w0 [] w' [] := by
  refine does_of (l := [.agg ⟨bys x⟩]) Try.func70 (by kernel_rfl) rfl Try.ntmps70 rfl rfl ?_
  have hp := Hp.refl w0 []
  refine GW_seq ?_
  refine GW_region ?_
  refine GL_box (wn_none rfl) rfl rfl rfl rfl hp ?_
  intro g w hp
  refine GL_alloc (wn_none rfl) rfl rfl tz96 rfl hp ?_
  intro g2 w hp
  refine GL_rd (v := .int _ _) (wn_none rfl) rfl (rd_assign rfl rfl) ?_
  refine GL_nil ?_
  refine GW_seq ?_
  refine GW_region ?_
  refine GL_rd (wn_none rfl) rfl (rd_sliceA (lo := 0) (hi := 252) rfl rfl Try.underlying35 ts5 at_none (at_some rfl rfl) (by decide) (by decide) (by decide) _ rfl) ?_
  refine GL_call (wn_none rfl) rfl rfl (word_From _ _ _ _) rfl ?_
  rintro _ w ⟨p, rfl, hk⟩
  have hp := hp.comp hk
  refine GL_rd (v := .pointer (some ⟨_, _, none⟩)) (wn_none rfl) rfl (rd_assign rfl rfl) ?_
  refine GL_nil ?_
  refine GW_seq ?_
  refine GW_seq ?_
  refine GW_region ?_
  refine GL_rd (wn_none rfl) rfl (rd_sliceA (lo := 0) (hi := 256) rfl rfl Try.underlying35 ts5 at_none to_none (by decide) (by decide) (by decide) _ rfl) ?_
  refine GL_call (wn_none rfl) rfl rfl (crc_Holds _ 256 x _ (Sl.cells (hp.get 2 rfl) 1 256 256 0 (bys x) (by rw [List.drop_zero, List.take_of_length_le (by rw [bys_length, hx]; decide)]) (by rw [bys_length, hx]; decide) (by decide) (by decide))) rfl ?_
  rintro _ w ⟨rfl, hk⟩
  have hp := hp.comp hk
  refine GL_rd (wn_none rfl) rfl (rd_not rfl rfl) ?_
  refine GL_rd (v := .bool _) (wn_none rfl) rfl (rd_move rfl rfl) ?_
  refine GL_split (t := 12) (b := _) rfl ?_ ?_
  · intro hb; (try simp only [decide_eq_true_eq, decide_eq_false_iff_not, Bool.not_eq_true', Bool.not_eq_false', Bool.not_eq_eq_eq_not, Bool.not_true, Bool.not_false, Int.not_lt, Int.not_le] at hb)
    have hbad : tickG x = none := tickG_no hx (fun hh => by rw [hh.1] at hb; cases hb)
    refine GL_pass (nw_off rfl rfl rfl rfl rfl) rfl ?_
    refine GL_pass (nw_off rfl rfl rfl rfl rfl) rfl ?_
    refine GL_pass (nw_off rfl rfl rfl rfl rfl) rfl ?_
    refine GL_pass (nw_off rfl rfl rfl rfl rfl) rfl ?_
    refine GL_rd (v := .bool _) (wn_none rfl) rfl (rd_pickT rfl rfl rfl) ?_
    refine GL_nil ?_
    refine GW_true rfl ?_
    refine GW_seq ?_
    refine GW_region ?_
    refine GL_rd (wn_none rfl) rfl (rd_buildS (L := [.int .i64 0, .int .i64 0]) rfl tz96 pl96 (by kernel_rfl)) ?_
    refine GL_store (i := 1) (wn_none rfl) rfl rfl rfl rfl ts96 rfl rfl (oneC rfl (oneC rfl one0)) hp rfl (by first | exact Nat.le_of_ble_eq_true rfl | simp [bys_length, *]) rfl ?_
    intro w hp
    refine GL_rd (v := .int _ _) (wn_none rfl) rfl (rd_assign rfl rfl) ?_
    refine GL_nil ?_
    refine GW_ret ?_
    exact ⟨_, res2 Try.results70 (rv_cell rfl rfl Try.underlying96 rfl ts96 rfl (hp.get 1 rfl)) (rv_tmp (v := .int _ _) rfl rfl), by rw [hbad] <;> rfl, hp.mods⟩
  · intro hb; (try simp only [decide_eq_true_eq, decide_eq_false_iff_not, Bool.not_eq_true', Bool.not_eq_false', Bool.not_eq_eq_eq_not, Bool.not_true, Bool.not_false, Int.not_lt, Int.not_le] at hb)
    have hh1 : holdsL x = true := hb
    refine GL_rd (v := .pointer (some ⟨_, _, none⟩)) (wn_on rfl rfl rfl rfl) rfl (rd_move rfl rfl) ?_
    refine GL_call (wn_on rfl rfl rfl rfl) rfl rfl (cur_Bytes p _ (x.take 252) (false) 4 _ (hp.get 0 rfl) (fun w' h => (Sl.cellsB (hp.stayAt 0 2 rfl rfl (by decide) h) (by rw [hx]; decide) (by decide) (by decide))) (by simp only [List.length_drop, List.length_take, hx]; omega)) rfl ?_
    rintro v w ⟨bv, hsuf, hk⟩
    have hp := hp.turnAtMore 0 rfl hk
    obtain ⟨Av, cv, rfl⟩ := row_shape (hp.get 0 rfl)
    have st1 : curOk false (x.take 252) 4 = true ∧ curOut false (x.take 252) 4 = (x.take 252).take 4 ∧ curL false (x.take 252) 4 = (x.take 252).drop 4 := cur_step (x.take 252) 4 (by simp only [List.length_drop, List.length_take, hx]; omega)
    rw [st1.2.2] at hsuf
    rw [st1.2.1, st1.1, Bool.not_true] at hp
    rw [st1.2.1]
    refine GL_rd (wn_on rfl rfl rfl rfl) rfl (rd_toStr rfl rfl Try.underlying23 Try.underlying9 Try.underlying5 (Sl.row (hp.get 0 rfl))) ?_
    refine GL_rd (wn_on rfl rfl rfl rfl) rfl (rd_bin rfl rfl rfl bo_sneq) ?_
    refine GL_rd (v := .bool _) (wn_none rfl) rfl (rd_pickF rfl rfl rfl) ?_
    refine GL_nil ?_
    refine GW_cond rfl (fun hb2 => ?_) (fun hb2 => ?_)
    · (try simp only [decide_eq_true_eq, decide_eq_false_iff_not, Bool.not_eq_true', Bool.not_eq_false', Bool.not_eq_eq_eq_not, Bool.not_true, Bool.not_false, Int.not_lt, Int.not_le] at hb2)
      have hbad : tickG x = none := tickG_no hx (fun hh => hb2 (by rw [hh.2.1]))
      refine GW_seq ?_
      refine GW_region ?_
      refine GL_rd (wn_none rfl) rfl (rd_buildS (L := [.int .i64 0, .int .i64 0]) rfl tz96 pl96 (by kernel_rfl)) ?_
      refine GL_store (i := 2) (wn_none rfl) rfl rfl rfl rfl ts96 rfl rfl (oneC rfl (oneC rfl one0)) hp rfl (by first | exact Nat.le_of_ble_eq_true rfl | simp [bys_length, *]) rfl ?_
      intro w hp
      refine GL_rd (v := .int _ _) (wn_none rfl) rfl (rd_assign rfl rfl) ?_
      refine GL_nil ?_
      refine GW_ret ?_
      exact ⟨_, res2 Try.results70 (rv_cell rfl rfl Try.underlying96 rfl ts96 rfl (hp.get 2 rfl)) (rv_tmp (v := .int _ _) rfl rfl), by rw [hbad] <;> rfl, hp.mods⟩
    · (try simp only [decide_eq_true_eq, decide_eq_false_iff_not, Bool.not_eq_true', Bool.not_eq_false', Bool.not_eq_eq_eq_not, Bool.not_true, Bool.not_false, Int.not_lt, Int.not_le] at hb2)
      have hh2 : (x.take 252).take 4 = [84, 73, 67, 75] := congrArg (fun z : ByteArray => z.data.toList) hb2
      refine GW_skip ?_
      refine GW_seq ?_
      refine GW_region ?_
      refine GL_rd (v := .pointer (some ⟨_, _, none⟩)) (wn_none rfl) rfl (rd_move rfl rfl) ?_
      refine GL_call (wn_none rfl) rfl rfl (cur_Num p _ ((x.take 252).drop 4) (false) 8 _ (hp.get 1 rfl) (fun w' h => (hsuf w' (Sl.cellsB (hp.stayAt 1 3 rfl rfl (by decide) h) (by rw [hx]; decide) (by decide) (by decide)))) (by simp only [List.length_drop, List.length_take, hx]; omega)) rfl ?_
      rintro _ w ⟨bv2, hsuf2, rfl, hk⟩
      have hp := hp.turnAtMore 1 rfl hk
      have st1 : curOk false ((x.take 252).drop 4) 8 = true ∧ curOut false ((x.take 252).drop 4) 8 = ((x.take 252).drop 4).take 8 ∧ curL false ((x.take 252).drop 4) 8 = ((x.take 252).drop 4).drop 8 := cur_step ((x.take 252).drop 4) 8 (by simp only [List.length_drop, List.length_take, hx]; omega)
      rw [st1.2.2] at hsuf2
      rw [st1.1, Bool.not_true] at hp
      rw [show curNum false ((x.take 252).drop 4) 8 = getL (((x.take 252).drop 4).take 8) from num_step ((x.take 252).drop 4) 8 (by simp only [List.length_drop, List.length_take, hx]; omega) (Nat.le_refl _)]
      refine GL_rd (v := .pointer (some ⟨_, _, none⟩)) (wn_none rfl) rfl (rd_move rfl rfl) ?_
      refine GL_call (wn_none rfl) rfl rfl (cur_Num p _ (((x.take 252).drop 4).drop 8) (false) 8 _ (hp.get 0 rfl) (fun w' h => (hsuf2 w' (hsuf w' (Sl.cellsB (hp.stayAt 0 3 rfl rfl (by decide) h) (by rw [hx]; decide) (by decide) (by decide))))) (by simp only [List.length_drop, List.length_take, hx]; omega)) rfl ?_
      rintro _ w ⟨bv3, hsuf3, rfl, hk⟩
      have hp := hp.turnAtMore 0 rfl hk
      have st1 : curOk false (((x.take 252).drop 4).drop 8) 8 = true ∧ curOut false (((x.take 252).drop 4).drop 8) 8 = (((x.take 252).drop 4).drop 8).take 8 ∧ curL false (((x.take 252).drop 4).drop 8) 8 = (((x.take 252).drop 4).drop 8).drop 8 := cur_step (((x.take 252).drop 4).drop 8) 8 (by simp only [List.length_drop, List.length_take, hx]; omega)
      rw [st1.2.2] at hsuf3
      rw [st1.1, Bool.not_true] at hp
      rw [show curNum false (((x.take 252).drop 4).drop 8) 8 = getL ((((x.take 252).drop 4).drop 8).take 8) from num_step (((x.take 252).drop 4).drop 8) 8 (by simp only [List.length_drop, List.length_take, hx]; omega) (Nat.le_refl _)]
      refine GL_rd (v := .int _ _) (wn_none rfl) rfl (rd_assign rfl rfl) ?_
      refine GL_rd (v := .int _ _) (wn_none rfl) rfl (rd_assign rfl rfl) ?_
      refine GL_nil ?_
      refine GW_seq ?_
      refine GW_seq ?_
      refine GW_region ?_
      refine GL_rd (v := .pointer (some ⟨_, _, none⟩)) (wn_none rfl) rfl (rd_move rfl rfl) ?_
      refine GL_call (wn_none rfl) rfl rfl (cur_Rest p _ ((((x.take 252).drop 4).drop 8).drop 8) (false) _ (hp.get 0 rfl) (fun w' h => (hsuf3 w' (hsuf2 w' (hsuf w' (Sl.cellsB (hp.stayAt 0 3 rfl rfl (by decide) h) (by rw [hx]; decide) (by decide) (by decide))))))) rfl ?_
      rintro _ w ⟨rfl, hk⟩
      have hp := hp.comp hk
      refine GL_rd (wn_none rfl) rfl (rd_not rfl rfl) ?_
      refine GL_rd (v := .bool _) (wn_none rfl) rfl (rd_move rfl rfl) ?_
      refine GL_split (t := 26) (b := _) rfl ?_ ?_
      · intro hb3; (try simp only [decide_eq_true_eq, decide_eq_false_iff_not, Bool.not_eq_true', Bool.not_eq_false', Bool.not_eq_eq_eq_not, Bool.not_true, Bool.not_false, Int.not_lt, Int.not_le] at hb3)
        have hbad : tickG x = none := tickG_no hx (fun hh => by rw [hh.2.2.1] at hb3; exact absurd hb3 (by decide))
        refine GL_pass (nw_off rfl rfl rfl rfl rfl) rfl ?_
        refine GL_pass (nw_off rfl rfl rfl rfl rfl) rfl ?_
        refine GL_rd (v := .bool _) (wn_none rfl) rfl (rd_pickT rfl rfl rfl) ?_
        refine GL_rd (v := .bool _) (wn_none rfl) rfl (rd_move rfl rfl) ?_
        refine GL_pass (nw_off rfl rfl rfl rfl rfl) rfl ?_
        refine GL_pass (nw_off rfl rfl rfl rfl rfl) rfl ?_
        refine GL_rd (v := .bool _) (wn_none rfl) rfl (rd_pickT rfl rfl rfl) ?_
        refine GL_nil ?_
        refine GW_true rfl ?_
        refine GW_seq ?_
        refine GW_region ?_
        refine GL_rd (wn_none rfl) rfl (rd_buildS (L := [.int .i64 0, .int .i64 0]) rfl tz96 pl96 (by kernel_rfl)) ?_
        refine GL_store (i := 2) (wn_none rfl) rfl rfl rfl rfl ts96 rfl rfl (oneC rfl (oneC rfl one0)) hp rfl (by first | exact Nat.le_of_ble_eq_true rfl | simp [bys_length, *]) rfl ?_
        intro w hp
        refine GL_rd (v := .int _ _) (wn_none rfl) rfl (rd_assign rfl rfl) ?_
        refine GL_nil ?_
        refine GW_ret ?_
        exact ⟨_, res2 Try.results70 (rv_cell rfl rfl Try.underlying96 rfl ts96 rfl (hp.get 2 rfl)) (rv_tmp (v := .int _ _) rfl rfl), by rw [hbad] <;> rfl, hp.mods⟩
      · intro hb3; (try simp only [decide_eq_true_eq, decide_eq_false_iff_not, Bool.not_eq_true', Bool.not_eq_false', Bool.not_eq_eq_eq_not, Bool.not_true, Bool.not_false, Int.not_lt, Int.not_le] at hb3)
        have hh3 : zeroL ((((x.take 252).drop 4).drop 8).drop 8) = true := hb3
        refine GL_rd (v := .int _ _) (wn_on rfl rfl rfl rfl) rfl (rd_move rfl rfl) ?_
        refine GL_rd (wn_on rfl rfl rfl rfl) rfl (rd_bin rfl rfl rfl bo_gtr) ?_
        refine GL_rd (v := .bool _) (wn_none rfl) rfl (rd_pickF rfl rfl rfl) ?_
        refine GL_rd (v := .bool _) (wn_none rfl) rfl (rd_move rfl rfl) ?_
        refine GL_split (t := 30) (b := _) rfl ?_ ?_
        · intro hb4; (try simp only [decide_eq_true_eq, decide_eq_false_iff_not, Bool.not_eq_true', Bool.not_eq_false', Bool.not_eq_eq_eq_not, Bool.not_true, Bool.not_false, Int.not_lt, Int.not_le] at hb4)
          have hbad : tickG x = none := tickG_no hx (fun hh => by have := hh.2.2.2.1; omega)
          refine GL_pass (nw_off rfl rfl rfl rfl rfl) rfl ?_
          refine GL_pass (nw_off rfl rfl rfl rfl rfl) rfl ?_
          refine GL_rd (v := .bool _) (wn_none rfl) rfl (rd_pickT rfl rfl rfl) ?_
          refine GL_nil ?_
          refine GW_true rfl ?_
          refine GW_seq ?_
          refine GW_region ?_
          refine GL_rd (wn_none rfl) rfl (rd_buildS (L := [.int .i64 0, .int .i64 0]) rfl tz96 pl96 (by kernel_rfl)) ?_
          refine GL_store (i := 2) (wn_none rfl) rfl rfl rfl rfl ts96 rfl rfl (oneC rfl (oneC rfl one0)) hp rfl (by first | exact Nat.le_of_ble_eq_true rfl | simp [bys_length, *]) rfl ?_
          intro w hp
          refine GL_rd (v := .int _ _) (wn_none rfl) rfl (rd_assign rfl rfl) ?_
          refine GL_nil ?_
          refine GW_ret ?_
          exact ⟨_, res2 Try.results70 (rv_cell rfl rfl Try.underlying96 rfl ts96 rfl (hp.get 2 rfl)) (rv_tmp (v := .int _ _) rfl rfl), by rw [hbad] <;> rfl, hp.mods⟩
        · intro hb4; (try simp only [decide_eq_true_eq, decide_eq_false_iff_not, Bool.not_eq_true', Bool.not_eq_false', Bool.not_eq_eq_eq_not, Bool.not_true, Bool.not_false, Int.not_lt, Int.not_le] at hb4)
          refine GL_rd (v := .int _ _) (wn_on rfl rfl rfl rfl) rfl (rd_move rfl rfl) ?_
          refine GL_rd (wn_on rfl rfl rfl rfl) rfl (rd_bin rfl rfl rfl bo_gtr) ?_
          refine GL_rd (v := .bool _) (wn_none rfl) rfl (rd_pickF rfl rfl rfl) ?_
          refine GL_nil ?_
          refine GW_cond rfl (fun hb5 => ?_) (fun hb5 => ?_)
          · (try simp only [decide_eq_true_eq, decide_eq_false_iff_not, Bool.not_eq_true', Bool.not_eq_false', Bool.not_eq_eq_eq_not, Bool.not_true, Bool.not_false, Int.not_lt, Int.not_le] at hb5)
            have hbad : tickG x = none := tickG_no hx (fun hh => by have := hh.2.2.2.2; omega)
            refine GW_seq ?_
            refine GW_region ?_
            refine GL_rd (wn_none rfl) rfl (rd_buildS (L := [.int .i64 0, .int .i64 0]) rfl tz96 pl96 (by kernel_rfl)) ?_
            refine GL_store (i := 2) (wn_none rfl) rfl rfl rfl rfl ts96 rfl rfl (oneC rfl (oneC rfl one0)) hp rfl (by first | exact Nat.le_of_ble_eq_true rfl | simp [bys_length, *]) rfl ?_
            intro w hp
            refine GL_rd (v := .int _ _) (wn_none rfl) rfl (rd_assign rfl rfl) ?_
            refine GL_nil ?_
            refine GW_ret ?_
            exact ⟨_, res2 Try.results70 (rv_cell rfl rfl Try.underlying96 rfl ts96 rfl (hp.get 2 rfl)) (rv_tmp (v := .int _ _) rfl rfl), by rw [hbad] <;> rfl, hp.mods⟩
          · (try simp only [decide_eq_true_eq, decide_eq_false_iff_not, Bool.not_eq_true', Bool.not_eq_false', Bool.not_eq_eq_eq_not, Bool.not_true, Bool.not_false, Int.not_lt, Int.not_le] at hb5)
            have hgood : tickG x = some (tickA x, tickB x) := tickG_yes hx ⟨hh1, hh2, hh3, by omega, by omega⟩
            refine GW_skip ?_
            refine GW_seq ?_
            refine GW_region ?_
            refine GL_rd (v := .int _ _) (wn_none rfl) rfl (rd_move rfl rfl) ?_
            refine GL_rd (wn_none rfl) rfl (rd_convE (q := (getL (((x.take 252).drop 4).take 8) : Int)) rfl rfl Try.underlying3 Try.underlying22 (by simp) (IntWalk.i64_in _ (by omega))) ?_
            refine GL_rd (v := .int _ _) (wn_none rfl) rfl (rd_move rfl rfl) ?_
            refine GL_rd (wn_none rfl) rfl (rd_convE (q := (getL ((((x.take 252).drop 4).drop 8).take 8) : Int)) rfl rfl Try.underlying3 Try.underlying22 (by simp) (IntWalk.i64_in _ (by omega))) ?_
            refine GL_rd (wn_none rfl) rfl (rd_buildS (L := [.int .i64 (getL (((x.take 252).drop 4).take 8) : Int), .int .i64 (getL ((((x.take 252).drop 4).drop 8).take 8) : Int)]) rfl tz96 pl96 (by kernel_rfl)) ?_
            refine GL_store (i := 2) (wn_none rfl) rfl rfl rfl rfl ts96 rfl rfl (oneC rfl (oneC rfl one0)) hp rfl (by first | exact Nat.le_of_ble_eq_true rfl | simp [bys_length, *]) rfl ?_
            intro w hp
            refine GL_rd (v := .int _ _) (wn_none rfl) rfl (rd_assign rfl rfl) ?_
            refine GL_nil ?_
            refine GW_ret ?_
            exact ⟨_, res2 Try.results70 (rv_cell rfl rfl Try.underlying96 rfl ts96 rfl (hp.get 2 rfl)) (rv_tmp (v := .int _ _) rfl rfl), by rw [hgood, ← tick_a, ← tick_b] <;> rfl, hp.mods⟩

theorem ref_num (x : List UInt8) (p : Nat) (w0 : World) (hx : x.length = 256) (hpp : p + 8 ≤ 256) : Does Try.prog 104 #[.agg ⟨bys x⟩, .int .i64 (p : Int)] w0 fun v w' => v = .int .u64 (getL ((x.drop p).take 8) : Int) ∧ Hp w0 [] w' [] := by
  refine does_of (l := [.agg ⟨bys x⟩, .int .i64 (p : Int)]) Try.func104 (by kernel_rfl) rfl Try.ntmps104 rfl rfl ?_
  have hp := Hp.refl w0 []
  refine GW_seq ?_
  refine GW_region ?_
  refine GL_box (wn_none rfl) rfl rfl rfl rfl hp ?_
  intro g w hp
  refine GL_rd (v := .int _ _) (wn_none rfl) rfl (rd_assign rfl rfl) ?_
  refine GL_nil ?_
  refine GW_seq ?_
  refine GW_region ?_
  refine GL_rd (v := .slice _ _ _) (wn_none rfl) rfl (rd_assign rfl rfl) ?_
  refine GL_nil ?_
  refine GW_seq ?_
  refine GW_seq ?_
  refine GW_region ?_
  refine GL_rd (v := .int _ _) (wn_none rfl) rfl (rd_assign rfl rfl) ?_
  refine GL_nil ?_
  refine GW_block ?_
  refine GW_loop ?_
  refine Lp_ind (α := Nat × Value) (fun a f w' => match a with | (k, v) => ∃ fz, f = (upd (upd (upd (upd fz 1 (.int .i64 (p : Int))) 2 (.pointer (some ⟨g, 0, none⟩))) 5 (v)) 6 (.int .i64 (k : Int))) ∧ Hp w0 [] w' [.row 5 1 v k (bys ((x.drop p).take k)), cells g 35 (bys x)] ∧ (k ≤ 8)) (fun a => match a with | (k, v) => 8 - k) ?_ (0, .slice none 0 0) _ _ ?_
  · rintro ⟨k, v⟩ f wz ⟨fz, rfl, hp, hk8⟩ ihL0
    refine Lp_round ?_
    refine GW_seq ?_
    refine GW_seq ?_
    refine GW_region ?_
    refine GL_rd (v := .int _ _) (wn_none rfl) rfl (rd_move rfl rfl) ?_
    refine GL_rd (wn_none rfl) rfl (rd_bin rfl rfl rfl bo_lss) ?_
    refine GL_nil ?_
    refine GW_cond rfl (fun hb => ?_) (fun hb => ?_)
    · (try simp only [decide_eq_true_eq, decide_eq_false_iff_not, Bool.not_eq_true', Bool.not_eq_false', Bool.not_eq_eq_eq_not, Bool.not_true, Bool.not_false, Int.not_lt, Int.not_le] at hb)
      refine GW_skip ?_
      refine GW_seq ?_
      refine GW_block ?_
      refine GW_region ?_
      refine GL_rd (v := v) (wn_none rfl) rfl (rd_move rfl rfl) ?_
      refine GL_rd (v := .int _ _) (wn_none rfl) rfl (rd_move rfl rfl) ?_
      refine GL_rd (v := .int _ _) (wn_none rfl) rfl (rd_move rfl rfl) ?_
      refine GL_rd (wn_none rfl) rfl (rd_bin rfl rfl rfl (bo_add64 (by omega))) ?_
      refine GL_rd (wn_none rfl) rfl (rd_indexA (j := (p + k)) rfl rfl rfl Try.underlying35 ts5 rfl (by omega) _ rfl) ?_
      refine GL_rd (wn_none rfl) rfl (rd_load rfl rfl Try.underlying5 rfl ((cell_of_cells (hp.get 1 rfl) _).trans (bys_at0 (by omega)))) ?_
      refine GL_lit (L := [.int .u8 ((x.getD (p + k) 0).toNat : Int)]) (wn_none rfl) rfl rfl Try.underlying23 ts5 tz5 rfl (by kernel_rfl) rfl rfl hp ?_
      intro g2 w hp
      refine GL_append (i := 1) (wn_none rfl) rfl rfl rfl rfl Try.underlying23 ti5 rfl (by decide) hp rfl (Sl.row (hp.get 0 rfl)) (one1 rfl) (by omega) (by omega) ?_
      intro v w hp
      refine GL_rd (v := v) (wn_none rfl) rfl (rd_assign rfl rfl) ?_
      refine GL_nil ?_
      refine GW_region ?_
      refine GL_rd (v := .int _ _) (wn_none rfl) rfl (rd_move rfl rfl) ?_
      refine GL_rd (wn_none rfl) rfl (rd_bin rfl rfl rfl (bo_add64 (by omega))) ?_
      refine GL_rd (v := .int _ _) (wn_none rfl) rfl (rd_assign rfl rfl) ?_
      refine GL_nil ?_
      have hp := hp.drop 1
      have hp : Hp w0 [] w [.row 5 1 v (k + 1) (bys ((x.drop p).take (k + 1))), cells g 35 (bys x)] := by rw [← take_snoc (by omega)]; exact hp
      exact ihL0 (k + 1, v) _ _ (by simp only []; omega) ⟨_, slots4 rfl rfl rfl rfl, hp, by omega⟩
    · (try simp only [decide_eq_true_eq, decide_eq_false_iff_not, Bool.not_eq_true', Bool.not_eq_false', Bool.not_eq_eq_eq_not, Bool.not_true, Bool.not_false, Int.not_lt, Int.not_le] at hb)
      obtain rfl : k = 8 := by omega
      refine GW_exit ?_
      refine GW_seq ?_
      refine GW_region ?_
      refine GL_rd (v := v) (wn_none rfl) rfl (rd_move rfl rfl) ?_
      refine GL_call (wn_none rfl) rfl rfl (ref_Get 8 _ 8 ((x.drop p).take 8) _ (Sl.row (hp.get 0 rfl)) rfl) rfl ?_
      rintro _ w ⟨rfl, hk⟩
      have hp := hp.comp hk
      refine GL_rd (v := .int _ _) (wn_none rfl) rfl (rd_assign rfl rfl) ?_
      refine GL_nil ?_
      refine GW_ret ?_
      exact ⟨_, res1 Try.results104 (rv_tmp (v := .int _ _) rfl rfl), by rw [List.take_take]; rfl, hp.mods⟩
  · have hp := hp.nilRow 5 1
    refine ⟨_, slots4 rfl rfl rfl rfl, hp, Nat.zero_le _⟩

theorem ref_tGet (x : List UInt8) (w0 : World) (hx : x.length = 256) : Does Try.prog 71 #[.agg ⟨bys x⟩] w0 fun v w' => v = .tuple #[.int .i64 (tickN (tickG x)), .int .i64 (tickM (tickG x)), .bool (tickG x).isSome] ∧ Hp w0 [] w' [] := by
  refine does_of (l := [.agg ⟨bys x⟩]) Try.func71 (by kernel_rfl) rfl Try.ntmps71 rfl rfl ?_
  have hp := Hp.refl w0 []
  refine GW_seq ?_
  refine GW_region ?_
  refine GL_box (wn_none rfl) rfl rfl rfl rfl hp ?_
  intro g w hp
  refine GL_rd (v := .int _ _) (wn_none rfl) rfl (rd_assign rfl rfl) ?_
  refine GL_rd (v := .int _ _) (wn_none rfl) rfl (rd_assign rfl rfl) ?_
  refine GL_rd (v := .bool _) (wn_none rfl) rfl (rd_assign rfl rfl) ?_
  refine GL_nil ?_
  refine GW_seq ?_
  refine GW_region ?_
  refine GL_rd (wn_none rfl) rfl (rd_loadC rfl rfl Try.underlying35 rfl ts35 (hp.get 0 rfl) (by first | rfl | simp [bys_length, *])) ?_
  refine GL_call (wn_none rfl) rfl rfl (ref_num x 4 _ hx (by decide)) rfl ?_
  rintro _ w ⟨rfl, hk⟩
  have hp := hp.comp hk
  rw [show getL ((x.drop 4).take 8) = tickA x from rfl]
  refine GL_rd (v := .int _ _) (wn_none rfl) rfl (rd_assign rfl rfl) ?_
  refine GL_nil ?_
  refine GW_seq ?_
  refine GW_region ?_
  refine GL_rd (wn_none rfl) rfl (rd_loadC rfl rfl Try.underlying35 rfl ts35 (hp.get 0 rfl) (by first | rfl | simp [bys_length, *])) ?_
  refine GL_call (wn_none rfl) rfl rfl (ref_num x 12 _ hx (by decide)) rfl ?_
  rintro _ w ⟨rfl, hk⟩
  have hp := hp.comp hk
  rw [show getL ((x.drop 12).take 8) = tickB x from rfl]
  refine GL_rd (v := .int _ _) (wn_none rfl) rfl (rd_assign rfl rfl) ?_
  refine GL_nil ?_
  refine GW_seq ?_
  refine GW_seq ?_
  refine GW_region ?_
  refine GL_rd (v := .int _ _) (wn_none rfl) rfl (rd_move rfl rfl) ?_
  refine GL_rd (wn_none rfl) rfl (rd_bin rfl rfl rfl bo_gtr) ?_
  refine GL_rd (v := .bool _) (wn_none rfl) rfl (rd_move rfl rfl) ?_
  refine GL_split (t := 15) (b := _) rfl ?_ ?_
  · intro hb; (try simp only [decide_eq_true_eq, decide_eq_false_iff_not, Bool.not_eq_true', Bool.not_eq_false', Bool.not_eq_eq_eq_not, Bool.not_true, Bool.not_false, Int.not_lt, Int.not_le] at hb)
    have hbad : tickG x = none := by rw [tickG, if_neg (by omega)]
    refine GL_pass (nw_off rfl rfl rfl rfl rfl) rfl ?_
    refine GL_pass (nw_off rfl rfl rfl rfl rfl) rfl ?_
    refine GL_rd (v := .bool _) (wn_none rfl) rfl (rd_pickT rfl rfl rfl) ?_
    refine GL_nil ?_
    refine GW_true rfl ?_
    refine GW_seq ?_
    refine GW_region ?_
    refine GL_rd (v := .int _ _) (wn_none rfl) rfl (rd_assign rfl rfl) ?_
    refine GL_rd (v := .int _ _) (wn_none rfl) rfl (rd_assign rfl rfl) ?_
    refine GL_rd (v := .bool _) (wn_none rfl) rfl (rd_assign rfl rfl) ?_
    refine GL_nil ?_
    refine GW_ret ?_
    exact ⟨_, res3 Try.results71 (rv_tmp (v := .int _ _) rfl rfl) (rv_tmp (v := .int _ _) rfl rfl) (rv_tmp (v := .bool _) rfl rfl), by rw [hbad] <;> rfl, hp.mods⟩
  · intro hb; (try simp only [decide_eq_true_eq, decide_eq_false_iff_not, Bool.not_eq_true', Bool.not_eq_false', Bool.not_eq_eq_eq_not, Bool.not_true, Bool.not_false, Int.not_lt, Int.not_le] at hb)
    refine GL_rd (v := .int _ _) (wn_on rfl rfl rfl rfl) rfl (rd_move rfl rfl) ?_
    refine GL_rd (wn_on rfl rfl rfl rfl) rfl (rd_bin rfl rfl rfl bo_gtr) ?_
    refine GL_rd (v := .bool _) (wn_none rfl) rfl (rd_pickF rfl rfl rfl) ?_
    refine GL_nil ?_
    refine GW_cond rfl (fun hb2 => ?_) (fun hb2 => ?_)
    · (try simp only [decide_eq_true_eq, decide_eq_false_iff_not, Bool.not_eq_true', Bool.not_eq_false', Bool.not_eq_eq_eq_not, Bool.not_true, Bool.not_false, Int.not_lt, Int.not_le] at hb2)
      have hbad : tickG x = none := by rw [tickG, if_neg (by omega)]
      refine GW_seq ?_
      refine GW_region ?_
      refine GL_rd (v := .int _ _) (wn_none rfl) rfl (rd_assign rfl rfl) ?_
      refine GL_rd (v := .int _ _) (wn_none rfl) rfl (rd_assign rfl rfl) ?_
      refine GL_rd (v := .bool _) (wn_none rfl) rfl (rd_assign rfl rfl) ?_
      refine GL_nil ?_
      refine GW_ret ?_
      exact ⟨_, res3 Try.results71 (rv_tmp (v := .int _ _) rfl rfl) (rv_tmp (v := .int _ _) rfl rfl) (rv_tmp (v := .bool _) rfl rfl), by rw [hbad] <;> rfl, hp.mods⟩
    · (try simp only [decide_eq_true_eq, decide_eq_false_iff_not, Bool.not_eq_true', Bool.not_eq_false', Bool.not_eq_eq_eq_not, Bool.not_true, Bool.not_false, Int.not_lt, Int.not_le] at hb2)
      have hok : tickOk (tickA x : Int) (tickB x : Int) = true := by simp only [tickOk, decide_eq_true_eq]; omega
      refine GW_skip ?_
      refine GW_seq ?_
      refine GW_region ?_
      refine GL_rd (v := .int _ _) (wn_none rfl) rfl (rd_move rfl rfl) ?_
      refine GL_rd (wn_none rfl) rfl (rd_convE (q := (tickA x : Int)) rfl rfl Try.underlying3 Try.underlying22 (by simp) (IntWalk.i64_in _ (by omega))) ?_
      refine GL_rd (v := .int _ _) (wn_none rfl) rfl (rd_move rfl rfl) ?_
      refine GL_rd (wn_none rfl) rfl (rd_convE (q := (tickB x : Int)) rfl rfl Try.underlying3 Try.underlying22 (by simp) (IntWalk.i64_in _ (by omega))) ?_
      refine GL_call (wn_none rfl) rfl rfl (ref_tPut (tickA x) (tickB x) _) rfl ?_
      rintro _ w ⟨rfl, hk⟩
      have hp := hp.comp hk
      refine GL_rd (v := .tuple _) (wn_none rfl) rfl (rd_move rfl rfl) ?_
      refine GL_rd (v := .agg ⟨_⟩) (wn_none rfl) rfl (rd_extract rfl rfl rfl) ?_
      refine GL_rd (v := .int _ _) (wn_none rfl) rfl (rd_extract rfl rfl rfl) ?_
      refine GL_alloc (wn_none rfl) rfl rfl tz35 rfl hp ?_
      intro g2 w hp
      refine GL_store (i := 0) (wn_none rfl) rfl rfl rfl rfl ts35 rfl (by rw [bys_length, tickS_length]) (bys_one _) hp rfl (by rw [List.length_replicate]; omega) (splice_all _ _ (by rw [bys_length, tickS_length, List.length_replicate])) ?_
      intro w hp
      refine GL_rd (v := .int _ _) (wn_none rfl) rfl (rd_assign rfl rfl) ?_
      refine GL_nil ?_
      refine GW_seq ?_
      refine GW_seq ?_
      refine GW_region ?_
      refine GL_rd (v := .int _ _) (wn_none rfl) rfl (rd_move rfl rfl) ?_
      refine GL_rd (wn_none rfl) rfl (rd_bin rfl rfl rfl bo_neq) ?_
      refine GL_rd (v := .bool _) (wn_none rfl) rfl (rd_move rfl rfl) ?_
      refine GL_split (t := 29) (b := _) rfl ?_ ?_
      · intro hb3; (try simp only [decide_eq_true_eq, decide_eq_false_iff_not, Bool.not_eq_true', Bool.not_eq_false', Bool.not_eq_eq_eq_not, Bool.not_true, Bool.not_false, Int.not_lt, Int.not_le] at hb3)
        exact absurd (tickC_zero.2 hok) hb3
      · intro hb3; (try simp only [decide_eq_true_eq, decide_eq_false_iff_not, Bool.not_eq_true', Bool.not_eq_false', Bool.not_eq_eq_eq_not, Bool.not_true, Bool.not_false, Int.not_lt, Int.not_le] at hb3)
        refine GL_rd (wn_on rfl rfl rfl rfl) rfl (rd_loadN (L := bys (tickS (tickA x) (tickB x))) rfl rfl Try.underlying35 rfl ts35 (by rw [bys_length, tickS_length]) (fun j u hj => by rw [Nat.zero_add]; exact (cell_of_cells (hp.get 0 rfl) j).trans hj)) ?_
        refine GL_rd (wn_on rfl rfl rfl rfl) rfl (rd_loadN (L := bys x) rfl rfl Try.underlying35 rfl ts35 (by rw [bys_length, hx]) (fun j u hj => by rw [Nat.zero_add]; exact (cell_of_cells (hp.get 1 rfl) j).trans hj)) ?_
        refine GL_rd (wn_on rfl rfl rfl rfl) rfl (rd_bin rfl rfl rfl (bo_arrB Try.underlying35 Try.underlying5 ts5 (by kernel_rfl) (tickS_length _ _) hx).2) ?_
        refine GL_rd (v := .bool _) (wn_none rfl) rfl (rd_pickF rfl rfl rfl) ?_
        refine GL_nil ?_
        refine GW_cond rfl (fun hb4 => ?_) (fun hb4 => ?_)
        · (try simp only [decide_eq_true_eq, decide_eq_false_iff_not, Bool.not_eq_true', Bool.not_eq_false', Bool.not_eq_eq_eq_not, Bool.not_true, Bool.not_false, Int.not_lt, Int.not_le] at hb4)
          have hbad : tickG x = none := by rw [tickG, if_neg (fun q => hb4 q.2.2)]
          refine GW_seq ?_
          refine GW_region ?_
          refine GL_rd (v := .int _ _) (wn_none rfl) rfl (rd_assign rfl rfl) ?_
          refine GL_rd (v := .int _ _) (wn_none rfl) rfl (rd_assign rfl rfl) ?_
          refine GL_rd (v := .bool _) (wn_none rfl) rfl (rd_assign rfl rfl) ?_
          refine GL_nil ?_
          refine GW_ret ?_
          exact ⟨_, res3 Try.results71 (rv_tmp (v := .int _ _) rfl rfl) (rv_tmp (v := .int _ _) rfl rfl) (rv_tmp (v := .bool _) rfl rfl), by rw [hbad] <;> rfl, hp.mods⟩
        · (try simp only [decide_eq_true_eq, decide_eq_false_iff_not, Bool.not_eq_true', Bool.not_eq_false', Bool.not_eq_eq_eq_not, Bool.not_true, Bool.not_false, Int.not_lt, Int.not_le] at hb4)
          have hgood : tickG x = some (tickA x, tickB x) := by rw [tickG, if_pos ⟨by omega, by omega, hb4⟩]
          refine GW_skip ?_
          refine GW_seq ?_
          refine GW_region ?_
          refine GL_rd (v := .int _ _) (wn_none rfl) rfl (rd_move rfl rfl) ?_
          refine GL_rd (wn_none rfl) rfl (rd_convE (q := (tickA x : Int)) rfl rfl Try.underlying3 Try.underlying22 (by simp) (IntWalk.i64_in _ (by omega))) ?_
          refine GL_rd (v := .int _ _) (wn_none rfl) rfl (rd_move rfl rfl) ?_
          refine GL_rd (wn_none rfl) rfl (rd_convE (q := (tickB x : Int)) rfl rfl Try.underlying3 Try.underlying22 (by simp) (IntWalk.i64_in _ (by omega))) ?_
          refine GL_rd (v := .int _ _) (wn_none rfl) rfl (rd_assign rfl rfl) ?_
          refine GL_rd (v := .int _ _) (wn_none rfl) rfl (rd_assign rfl rfl) ?_
          refine GL_rd (v := .bool _) (wn_none rfl) rfl (rd_assign rfl rfl) ?_
          refine GL_nil ?_
          refine GW_ret ?_
          exact ⟨_, res3 Try.results71 (rv_tmp (v := .int _ _) rfl rfl) (rv_tmp (v := .int _ _) rfl rfl) (rv_tmp (v := .bool _) rfl rfl), by rw [hgood] <;> rfl, hp.mods⟩

def clockV : ClockM → Value
  | .fixed n => .iface 110 (.int .i64 n)
  | .state a b => .iface 96 (.agg ⟨[.int .i64 a, .int .i64 b]⟩)
  | .none => .nilIface
theorem tick_Latest (sv : Value) (m : Nat) (cs : List ClockM) (w0 : World) (hs : Sl w0 sv 1 m (cs.map clockV)) : Does Try.prog 72 #[sv] w0 fun v w' => v = .int .i64 (latestL cs) ∧ Hp w0 [] w' [] := by
  obtain ⟨A, c, rfl⟩ := sl_shape hs
  have hmle := hs.le
  have hcl : cs.length = m := by have := hs.len; simpa using this
  refine does_of (l := [.slice A m c]) Try.func72 (by kernel_rfl) rfl Try.ntmps72 rfl rfl ?_
  have hp := Hp.refl w0 []
  refine GW_seq ?_
  refine GW_region ?_
  refine GL_rd (v := .int _ _) (wn_none rfl) rfl (rd_assign rfl rfl) ?_
  refine GL_nil ?_
  refine GW_seq ?_
  refine GW_region ?_
  refine GL_rd (v := .int _ _) (wn_none rfl) rfl (rd_assign rfl rfl) ?_
  refine GL_nil ?_
  refine GW_seq ?_
  refine GW_seq ?_
  refine GW_region ?_
  refine GL_rd (v := .slice _ _ _) (wn_none rfl) rfl (rd_move rfl rfl) ?_
  refine GL_rd (wn_none rfl) rfl (rd_len rfl rfl Try.underlying109) ?_
  refine GL_rd (v := .int _ _) (wn_none rfl) rfl (rd_move rfl rfl) ?_
  refine GL_nil ?_
  refine GW_block ?_
  refine GW_loop ?_
  refine Lp_ind (α := Nat) (fun a f w' => match a with | i => ∃ fz, f = (upd (upd (upd (upd fz 3 (.int .i64 ((cs.take i).foldl ClockM.after 0))) 6 (.slice A m c)) 7 (.int .i64 (m : Int))) 8 (.int .i64 (i : Int))) ∧ Hp w0 [] w' [] ∧ (i ≤ m)) (fun a => match a with | i => m - i) ?_ 0 _ _ ?_
  · rintro i f wz ⟨fz, rfl, hp, hi0⟩ ihL0
    refine Lp_round ?_
    refine GW_seq ?_
    refine GW_region ?_
    refine GL_rd (wn_none rfl) rfl (rd_bin rfl rfl rfl bo_lss) ?_
    refine GL_nil ?_
    refine GW_seq ?_
    refine GW_cond rfl (fun hb => ?_) (fun hb => ?_)
    · (try simp only [decide_eq_true_eq, decide_eq_false_iff_not, Bool.not_eq_true', Bool.not_eq_false', Bool.not_eq_eq_eq_not, Bool.not_true, Bool.not_false, Int.not_lt, Int.not_le] at hb)
      refine GW_skip ?_
      refine GW_seq ?_
      refine GW_block ?_
      refine GW_seq ?_
      obtain ⟨cl, hc⟩ : ∃ cl, cs[i]? = some cl := ⟨_, List.getElem?_eq_getElem (by omega)⟩
      obtain ⟨gA, bA, rfl⟩ := hs.addr (by rw [List.length_map]; omega)
      have hft := fold_take ClockM.after 0 cs i default (by omega)
      rw [List.getD_eq_getElem?_getD, hc, Option.getD_some] at hft
      cases cl with
      | fixed n =>
        refine GW_region ?_
        refine GL_rd (wn_none rfl) rfl (rd_indexS (j := i) rfl rfl rfl Try.underlying109 ts156 rfl (by omega) _ rfl) ?_
        refine GL_rd (wn_none rfl) rfl (rd_load rfl rfl Try.underlying156 rfl ((hs.keep hp.mod).get (i * 1) _ (by rw [Nat.mul_one, List.getElem?_map, hc]; rfl))) ?_
        refine GL_rd (v := _) (wn_none rfl) rfl (rd_assign rfl rfl) ?_
        refine GL_nil ?_
        refine GW_seq ?_
        refine GW_region ?_
        refine GL_rd (v := _) (wn_none rfl) rfl (rd_move rfl rfl) ?_
        refine GL_rd (wn_none rfl) rfl (rd_bin rfl rfl rfl (bo_inil Try.underlying156 rfl)) ?_
        refine GL_nil ?_
        refine GW_true rfl ?_
        refine GW_region ?_
        refine GL_rd (v := .int _ _) (wn_none rfl) rfl (rd_move rfl rfl) ?_
        refine GL_rd (v := _) (wn_none rfl) rfl (rd_move rfl rfl) ?_
        refine GL_invoke (wn_none rfl) rfl rfl rfl (fun w => by kernel_rfl) (tick_FTime n _) ?_
        rintro _ w ⟨rfl, hk⟩
        have hp := hp.comp hk
        refine GL_rd (wn_none rfl) rfl (rd_max rfl rfl rfl) ?_
        refine GL_rd (v := .int _ _) (wn_none rfl) rfl (rd_assign rfl rfl) ?_
        refine GL_nil ?_
        refine GW_region ?_
        refine GL_rd (wn_none rfl) rfl (rd_bin rfl rfl rfl (bo_add64 (by omega))) ?_
        refine GL_rd (v := .int _ _) (wn_none rfl) rfl (rd_move rfl rfl) ?_
        refine GL_nil ?_
        have hst := congrArg (Value.int .i64) hft.symm
        exact ihL0 (i + 1) _ _ (by simp only []; omega) ⟨_, slots4 hst rfl rfl rfl, hp, (by omega)⟩
      | state a b =>
        refine GW_region ?_
        refine GL_rd (wn_none rfl) rfl (rd_indexS (j := i) rfl rfl rfl Try.underlying109 ts156 rfl (by omega) _ rfl) ?_
        refine GL_rd (wn_none rfl) rfl (rd_load rfl rfl Try.underlying156 rfl ((hs.keep hp.mod).get (i * 1) _ (by rw [Nat.mul_one, List.getElem?_map, hc]; rfl))) ?_
        refine GL_rd (v := _) (wn_none rfl) rfl (rd_assign rfl rfl) ?_
        refine GL_nil ?_
        refine GW_seq ?_
        refine GW_region ?_
        refine GL_rd (v := _) (wn_none rfl) rfl (rd_move rfl rfl) ?_
        refine GL_rd (wn_none rfl) rfl (rd_bin rfl rfl rfl (bo_inil Try.underlying156 rfl)) ?_
        refine GL_nil ?_
        refine GW_true rfl ?_
        refine GW_region ?_
        refine GL_rd (v := .int _ _) (wn_none rfl) rfl (rd_move rfl rfl) ?_
        refine GL_rd (v := _) (wn_none rfl) rfl (rd_move rfl rfl) ?_
        refine GL_invoke (wn_none rfl) rfl rfl rfl (fun w => by kernel_rfl) (tick_Time a b _) ?_
        rintro _ w ⟨rfl, hk⟩
        have hp := hp.comp hk
        refine GL_rd (wn_none rfl) rfl (rd_max rfl rfl rfl) ?_
        refine GL_rd (v := .int _ _) (wn_none rfl) rfl (rd_assign rfl rfl) ?_
        refine GL_nil ?_
        refine GW_region ?_
        refine GL_rd (wn_none rfl) rfl (rd_bin rfl rfl rfl (bo_add64 (by omega))) ?_
        refine GL_rd (v := .int _ _) (wn_none rfl) rfl (rd_move rfl rfl) ?_
        refine GL_nil ?_
        have hst := congrArg (Value.int .i64) hft.symm
        exact ihL0 (i + 1) _ _ (by simp only []; omega) ⟨_, slots4 hst rfl rfl rfl, hp, (by omega)⟩
      | none =>
        refine GW_region ?_
        refine GL_rd (wn_none rfl) rfl (rd_indexS (j := i) rfl rfl rfl Try.underlying109 ts156 rfl (by omega) _ rfl) ?_
        refine GL_rd (wn_none rfl) rfl (rd_load rfl rfl Try.underlying156 rfl ((hs.keep hp.mod).get (i * 1) _ (by rw [Nat.mul_one, List.getElem?_map, hc]; rfl))) ?_
        refine GL_rd (v := _) (wn_none rfl) rfl (rd_assign rfl rfl) ?_
        refine GL_nil ?_
        refine GW_seq ?_
        refine GW_region ?_
        refine GL_rd (v := _) (wn_none rfl) rfl (rd_move rfl rfl) ?_
        refine GL_rd (wn_none rfl) rfl (rd_bin rfl rfl rfl (bo_nilnil Try.underlying156 rfl rfl)) ?_
        refine GL_nil ?_
        refine GW_false rfl ?_
        refine GW_skip ?_
        refine GW_region ?_
        refine GL_rd (wn_none rfl) rfl (rd_bin rfl rfl rfl (bo_add64 (by omega))) ?_
        refine GL_rd (v := .int _ _) (wn_none rfl) rfl (rd_move rfl rfl) ?_
        refine GL_nil ?_
        have hst := congrArg (Value.int .i64) hft.symm
        exact ihL0 (i + 1) _ _ (by simp only []; omega) ⟨_, slots4 hst rfl rfl rfl, hp, (by omega)⟩
    · (try simp only [decide_eq_true_eq, decide_eq_false_iff_not, Bool.not_eq_true', Bool.not_eq_false', Bool.not_eq_eq_eq_not, Bool.not_true, Bool.not_false, Int.not_lt, Int.not_le] at hb)
      refine GW_exit ?_
      refine GW_seq ?_
      refine GW_region ?_
      refine GL_rd (v := .int _ _) (wn_none rfl) rfl (rd_move rfl rfl) ?_
      refine GL_rd (v := .int _ _) (wn_none rfl) rfl (rd_assign rfl rfl) ?_
      refine GL_nil ?_
      refine GW_ret ?_
      obtain rfl : i = m := by omega
      exact ⟨_, res1 Try.results72 (rv_tmp (v := .int _ _) rfl rfl), by rw [List.take_of_length_le (by omega)]; rfl, hp⟩
  · refine ⟨_, slots4 rfl rfl rfl rfl, hp, Nat.zero_le _⟩

theorem tick_works (w0 : World) : Does Try.prog 64 #[] w0 fun v w' => v = .bool true ∧ Hp w0 [] w' [] := by
  refine does_of (l := []) Try.func64 (by kernel_rfl) rfl Try.ntmps64 rfl rfl ?_
  have hp := Hp.refl w0 []
  refine GW_seq ?_
  refine GW_region ?_
  refine GL_rd (v := .bool _) (wn_none rfl) rfl (rd_assign rfl rfl) ?_
  refine GL_nil ?_
  refine GW_seq ?_
  refine GW_region ?_
  refine GL_rd (wn_none rfl) rfl (rd_buildS (L := [.int .i64 3, .int .i64 0]) rfl tz96 pl96 (by kernel_rfl)) ?_
  refine GL_call (wn_none rfl) rfl rfl (tick_Add 3 0 4 _ (by decide) (by decide) (by decide)) rfl ?_
  rintro _ w ⟨rfl, hk⟩
  have hp := hp.comp hk
  refine GL_rd (v := .tuple _) (wn_none rfl) rfl (rd_move rfl rfl) ?_
  refine GL_rd (v := .agg ⟨_⟩) (wn_none rfl) rfl (rd_extract rfl rfl rfl) ?_
  refine GL_rd (v := .int _ _) (wn_none rfl) rfl (rd_extract rfl rfl rfl) ?_
  refine GL_alloc (wn_none rfl) rfl rfl tz96 rfl hp ?_
  intro g w hp
  refine GL_store (i := 0) (wn_none rfl) rfl rfl rfl rfl ts96 rfl rfl (oneC rfl (oneC rfl one0)) hp rfl (by first | exact Nat.le_of_ble_eq_true rfl | simp [bys_length, *]) rfl ?_
  intro w hp
  refine GL_rd (v := .int _ _) (wn_none rfl) rfl (rd_assign rfl rfl) ?_
  refine GL_nil ?_
  refine GW_seq ?_
  refine GW_region ?_
  refine GL_rd (wn_none rfl) rfl (rd_loadC rfl rfl Try.underlying96 rfl ts96 (hp.get 0 rfl) (by first | rfl | simp [bys_length, *])) ?_
  refine GL_call (wn_none rfl) rfl rfl (tick_Add (addN 3 4) 0 (-1) _ (by decide) (by decide) (by decide)) rfl ?_
  rintro _ w ⟨rfl, hk⟩
  have hp := hp.comp hk
  refine GL_rd (v := .tuple _) (wn_none rfl) rfl (rd_move rfl rfl) ?_
  refine GL_rd (v := .agg ⟨_⟩) (wn_none rfl) rfl (rd_extract rfl rfl rfl) ?_
  refine GL_rd (v := .int _ _) (wn_none rfl) rfl (rd_extract rfl rfl rfl) ?_
  refine GL_alloc (wn_none rfl) rfl rfl tz96 rfl hp ?_
  intro g2 w hp
  refine GL_store (i := 0) (wn_none rfl) rfl rfl rfl rfl ts96 rfl rfl (oneC rfl (oneC rfl one0)) hp rfl (by first | exact Nat.le_of_ble_eq_true rfl | simp [bys_length, *]) rfl ?_
  intro w hp
  refine GL_rd (v := .int _ _) (wn_none rfl) rfl (rd_assign rfl rfl) ?_
  refine GL_nil ?_
  refine GW_seq ?_
  refine GW_region ?_
  refine GL_rd (wn_none rfl) rfl (rd_loadC rfl rfl Try.underlying96 rfl ts96 (hp.get 1 rfl) (by first | rfl | simp [bys_length, *])) ?_
  refine GL_call (wn_none rfl) rfl rfl (tick_Add (addN 3 4) 0 1099511627776 _ (by decide) (by decide) (by decide)) rfl ?_
  rintro _ w ⟨rfl, hk⟩
  have hp := hp.comp hk
  refine GL_rd (v := .tuple _) (wn_none rfl) rfl (rd_move rfl rfl) ?_
  refine GL_rd (v := .agg ⟨_⟩) (wn_none rfl) rfl (rd_extract rfl rfl rfl) ?_
  refine GL_rd (v := .int _ _) (wn_none rfl) rfl (rd_extract rfl rfl rfl) ?_
  refine GL_alloc (wn_none rfl) rfl rfl tz96 rfl hp ?_
  intro g3 w hp
  refine GL_store (i := 0) (wn_none rfl) rfl rfl rfl rfl ts96 rfl rfl (oneC rfl (oneC rfl one0)) hp rfl (by first | exact Nat.le_of_ble_eq_true rfl | simp [bys_length, *]) rfl ?_
  intro w hp
  refine GL_rd (v := .int _ _) (wn_none rfl) rfl (rd_assign rfl rfl) ?_
  refine GL_nil ?_
  refine GW_seq ?_
  refine GW_region ?_
  refine GL_rd (wn_none rfl) rfl (rd_loadC rfl rfl Try.underlying96 rfl ts96 (hp.get 2 rfl) (by first | rfl | simp [bys_length, *])) ?_
  refine GL_call (wn_none rfl) rfl rfl (tick_Deed (addN 3 4) 0 _ (by decide)) rfl ?_
  rintro _ w ⟨rfl, hk⟩
  have hp := hp.comp hk
  refine GL_rd (v := .tuple _) (wn_none rfl) rfl (rd_move rfl rfl) ?_
  refine GL_rd (v := .agg ⟨_⟩) (wn_none rfl) rfl (rd_extract rfl rfl rfl) ?_
  refine GL_rd (v := .int _ _) (wn_none rfl) rfl (rd_extract rfl rfl rfl) ?_
  refine GL_alloc (wn_none rfl) rfl rfl tz96 rfl hp ?_
  intro g4 w hp
  refine GL_store (i := 0) (wn_none rfl) rfl rfl rfl rfl ts96 rfl rfl (oneC rfl (oneC rfl one0)) hp rfl (by first | exact Nat.le_of_ble_eq_true rfl | simp [bys_length, *]) rfl ?_
  intro w hp
  refine GL_rd (v := .int _ _) (wn_none rfl) rfl (rd_assign rfl rfl) ?_
  refine GL_nil ?_
  refine GW_seq ?_
  refine GW_region ?_
  refine GL_rd (wn_none rfl) rfl (rd_loadC rfl rfl Try.underlying96 rfl ts96 (hp.get 0 rfl) (by first | rfl | simp [bys_length, *])) ?_
  refine GL_call (wn_none rfl) rfl rfl (tick_Put ((7 : Nat) : Int) ((1 : Nat) : Int) _) rfl ?_
  rintro _ w ⟨rfl, hk⟩
  have hp := hp.comp hk
  refine GL_rd (v := .tuple _) (wn_none rfl) rfl (rd_move rfl rfl) ?_
  refine GL_rd (v := .agg ⟨_⟩) (wn_none rfl) rfl (rd_extract rfl rfl rfl) ?_
  refine GL_rd (v := .int _ _) (wn_none rfl) rfl (rd_extract rfl rfl rfl) ?_
  refine GL_alloc (wn_none rfl) rfl rfl tz35 rfl hp ?_
  intro g5 w hp
  refine GL_store (i := 0) (wn_none rfl) rfl rfl rfl rfl ts35 rfl (by rw [bys_length, tickS_length]) (bys_one _) hp rfl (by rw [List.length_replicate]; omega) (splice_all _ _ (by rw [bys_length, tickS_length, List.length_replicate])) ?_
  intro w hp
  refine GL_rd (v := .int _ _) (wn_none rfl) rfl (rd_assign rfl rfl) ?_
  refine GL_nil ?_
  refine GW_seq ?_
  refine GW_region ?_
  refine GL_rd (wn_none rfl) rfl (rd_loadC rfl rfl Try.underlying35 rfl ts35 (hp.get 0 rfl) (by rw [bys_length, tickS_length])) ?_
  refine GL_call (wn_none rfl) rfl rfl (tick_Get (tickS ((7 : Nat) : Int) ((1 : Nat) : Int)) _ (tickS_length _ _)) rfl ?_
  rintro _ w ⟨rfl, hk⟩
  have hp := hp.comp hk
  rw [tick_back (a := 7) (b := 1) (by decide) (by decide)]
  refine GL_rd (v := .tuple _) (wn_none rfl) rfl (rd_move rfl rfl) ?_
  refine GL_rd (v := .agg ⟨_⟩) (wn_none rfl) rfl (rd_extract rfl rfl rfl) ?_
  refine GL_rd (v := .int _ _) (wn_none rfl) rfl (rd_extract rfl rfl rfl) ?_
  refine GL_alloc (wn_none rfl) rfl rfl tz96 rfl hp ?_
  intro g6 w hp
  refine GL_store (i := 0) (wn_none rfl) rfl rfl rfl rfl ts96 rfl rfl (oneC rfl (oneC rfl one0)) hp rfl (by first | exact Nat.le_of_ble_eq_true rfl | simp [bys_length, *]) rfl ?_
  intro w hp
  refine GL_rd (v := .int _ _) (wn_none rfl) rfl (rd_assign rfl rfl) ?_
  refine GL_nil ?_
  refine GW_seq ?_
  refine GW_region ?_
  refine GL_rd (wn_none rfl) rfl (rd_buildA (L := bys (List.replicate 256 0)) rfl tz35 Try.underlying35 ts5 (by kernel_rfl)) ?_
  refine GL_call (wn_none rfl) rfl rfl (tick_Get (List.replicate 256 0) _ List.length_replicate) rfl ?_
  rintro _ w ⟨rfl, hk⟩
  have hp := hp.comp hk
  rw [show tickG (List.replicate 256 0) = none from tickG_no List.length_replicate (fun h => absurd h.2.1 (by decide))]
  refine GL_rd (v := .tuple _) (wn_none rfl) rfl (rd_move rfl rfl) ?_
  refine GL_rd (v := .agg ⟨_⟩) (wn_none rfl) rfl (rd_extract rfl rfl rfl) ?_
  refine GL_rd (v := .int _ _) (wn_none rfl) rfl (rd_extract rfl rfl rfl) ?_
  refine GL_alloc (wn_none rfl) rfl rfl tz96 rfl hp ?_
  intro g7 w hp
  refine GL_store (i := 0) (wn_none rfl) rfl rfl rfl rfl ts96 rfl rfl (oneC rfl (oneC rfl one0)) hp rfl (by first | exact Nat.le_of_ble_eq_true rfl | simp [bys_length, *]) rfl ?_
  intro w hp
  refine GL_rd (v := .int _ _) (wn_none rfl) rfl (rd_assign rfl rfl) ?_
  refine GL_nil ?_
  refine GW_seq ?_
  refine GW_region ?_
  refine GL_rd (v := .int _ _) (wn_none rfl) rfl (rd_move rfl rfl) ?_
  refine GL_rd (wn_none rfl) rfl (rd_bin rfl rfl rfl bo_eql) ?_
  refine GL_rd (v := .bool _) (wn_none rfl) rfl (rd_move rfl rfl) ?_
  refine GL_split (t := 52) (b := _) rfl ?_ ?_
  · intro hb; (try simp only [decide_eq_true_eq, decide_eq_false_iff_not, Bool.not_eq_true', Bool.not_eq_false', Bool.not_eq_eq_eq_not, Bool.not_true, Bool.not_false, Int.not_lt, Int.not_le] at hb)
    refine GL_rd (wn_on rfl rfl rfl rfl) rfl (rd_field rfl rfl fa96_0 _ rfl) ?_
    refine GL_rd (wn_on rfl rfl rfl rfl) rfl (rd_load rfl rfl Try.underlying3 rfl ((cell_of_cells (hp.get 6 rfl) _).trans rfl)) ?_
    refine GL_rd (wn_on rfl rfl rfl rfl) rfl (rd_bin rfl rfl rfl bo_eql) ?_
    refine GL_rd (v := .bool _) (wn_none rfl) rfl (rd_pickT rfl rfl rfl) ?_
    refine GL_rd (v := .bool _) (wn_none rfl) rfl (rd_move rfl rfl) ?_
    refine GL_split (t := 57) (b := _) rfl ?_ ?_
    · intro hb2; (try simp only [decide_eq_true_eq, decide_eq_false_iff_not, Bool.not_eq_true', Bool.not_eq_false', Bool.not_eq_eq_eq_not, Bool.not_true, Bool.not_false, Int.not_lt, Int.not_le] at hb2)
      refine GL_rd (v := .int _ _) (wn_on rfl rfl rfl rfl) rfl (rd_move rfl rfl) ?_
      refine GL_rd (wn_on rfl rfl rfl rfl) rfl (rd_bin rfl rfl rfl bo_eql) ?_
      refine GL_rd (v := .bool _) (wn_none rfl) rfl (rd_pickT rfl rfl rfl) ?_
      refine GL_rd (v := .bool _) (wn_none rfl) rfl (rd_move rfl rfl) ?_
      refine GL_split (t := 61) (b := _) rfl ?_ ?_
      · intro hb3; (try simp only [decide_eq_true_eq, decide_eq_false_iff_not, Bool.not_eq_true', Bool.not_eq_false', Bool.not_eq_eq_eq_not, Bool.not_true, Bool.not_false, Int.not_lt, Int.not_le] at hb3)
        refine GL_rd (v := .int _ _) (wn_on rfl rfl rfl rfl) rfl (rd_move rfl rfl) ?_
        refine GL_rd (wn_on rfl rfl rfl rfl) rfl (rd_bin rfl rfl rfl bo_eql) ?_
        refine GL_rd (v := .bool _) (wn_none rfl) rfl (rd_pickT rfl rfl rfl) ?_
        refine GL_rd (v := .bool _) (wn_none rfl) rfl (rd_move rfl rfl) ?_
        refine GL_split (t := 65) (b := _) rfl ?_ ?_
        · intro hb4; (try simp only [decide_eq_true_eq, decide_eq_false_iff_not, Bool.not_eq_true', Bool.not_eq_false', Bool.not_eq_eq_eq_not, Bool.not_true, Bool.not_false, Int.not_lt, Int.not_le] at hb4)
          refine GL_rd (v := .int _ _) (wn_on rfl rfl rfl rfl) rfl (rd_move rfl rfl) ?_
          refine GL_rd (wn_on rfl rfl rfl rfl) rfl (rd_bin rfl rfl rfl bo_eql) ?_
          refine GL_rd (v := .bool _) (wn_none rfl) rfl (rd_pickT rfl rfl rfl) ?_
          refine GL_rd (v := .bool _) (wn_none rfl) rfl (rd_move rfl rfl) ?_
          refine GL_split (t := 69) (b := _) rfl ?_ ?_
          · intro hb5; (try simp only [decide_eq_true_eq, decide_eq_false_iff_not, Bool.not_eq_true', Bool.not_eq_false', Bool.not_eq_eq_eq_not, Bool.not_true, Bool.not_false, Int.not_lt, Int.not_le] at hb5)
            refine GL_rd (wn_on rfl rfl rfl rfl) rfl (rd_field rfl rfl fa96_1 _ rfl) ?_
            refine GL_rd (wn_on rfl rfl rfl rfl) rfl (rd_load rfl rfl Try.underlying3 rfl ((cell_of_cells (hp.get 3 rfl) _).trans rfl)) ?_
            refine GL_rd (wn_on rfl rfl rfl rfl) rfl (rd_bin rfl rfl rfl bo_eql) ?_
            refine GL_rd (v := .bool _) (wn_none rfl) rfl (rd_pickT rfl rfl rfl) ?_
            refine GL_rd (v := .bool _) (wn_none rfl) rfl (rd_move rfl rfl) ?_
            refine GL_split (t := 74) (b := _) rfl ?_ ?_
            · intro hb6; (try simp only [decide_eq_true_eq, decide_eq_false_iff_not, Bool.not_eq_true', Bool.not_eq_false', Bool.not_eq_eq_eq_not, Bool.not_true, Bool.not_false, Int.not_lt, Int.not_le] at hb6)
              refine GL_rd (v := .int _ _) (wn_on rfl rfl rfl rfl) rfl (rd_move rfl rfl) ?_
              refine GL_rd (wn_on rfl rfl rfl rfl) rfl (rd_bin rfl rfl rfl bo_eql) ?_
              refine GL_rd (v := .bool _) (wn_none rfl) rfl (rd_pickT rfl rfl rfl) ?_
              refine GL_rd (v := .bool _) (wn_none rfl) rfl (rd_move rfl rfl) ?_
              refine GL_split (t := 78) (b := _) rfl ?_ ?_
              · intro hb7; (try simp only [decide_eq_true_eq, decide_eq_false_iff_not, Bool.not_eq_true', Bool.not_eq_false', Bool.not_eq_eq_eq_not, Bool.not_true, Bool.not_false, Int.not_lt, Int.not_le] at hb7)
                refine GL_rd (wn_on rfl rfl rfl rfl) rfl (rd_loadC rfl rfl Try.underlying96 rfl ts96 (hp.get 1 rfl) (by first | rfl | simp [bys_length, *])) ?_
                refine GL_rd (wn_on rfl rfl rfl rfl) rfl (rd_loadC rfl rfl Try.underlying96 rfl ts96 (hp.get 3 rfl) (by first | rfl | simp [bys_length, *])) ?_
                refine GL_rd (wn_on rfl rfl rfl rfl) rfl (rd_bin rfl rfl rfl (bo_ints (xs := [((7 : Nat) : Int), ((1 : Nat) : Int)]) (ys := [addN 3 4, deedN 0]) ia96 rfl rfl).1) ?_
                refine GL_rd (v := .bool _) (wn_none rfl) rfl (rd_pickT rfl rfl rfl) ?_
                refine GL_rd (v := .bool _) (wn_none rfl) rfl (rd_move rfl rfl) ?_
                refine GL_split (t := 83) (b := _) rfl ?_ ?_
                · intro hb8; (try simp only [decide_eq_true_eq, decide_eq_false_iff_not, Bool.not_eq_true', Bool.not_eq_false', Bool.not_eq_eq_eq_not, Bool.not_true, Bool.not_false, Int.not_lt, Int.not_le] at hb8)
                  refine GL_rd (v := .int _ _) (wn_on rfl rfl rfl rfl) rfl (rd_move rfl rfl) ?_
                  refine GL_rd (wn_on rfl rfl rfl rfl) rfl (rd_bin rfl rfl rfl bo_eql) ?_
                  refine GL_rd (v := .bool _) (wn_none rfl) rfl (rd_pickT rfl rfl rfl) ?_
                  refine GL_rd (v := .bool _) (wn_none rfl) rfl (rd_move rfl rfl) ?_
                  refine GL_split (t := 87) (b := _) rfl ?_ ?_
                  · intro hb9; (try simp only [decide_eq_true_eq, decide_eq_false_iff_not, Bool.not_eq_true', Bool.not_eq_false', Bool.not_eq_eq_eq_not, Bool.not_true, Bool.not_false, Int.not_lt, Int.not_le] at hb9)
                    refine GL_rd (v := .int _ _) (wn_on rfl rfl rfl rfl) rfl (rd_move rfl rfl) ?_
                    refine GL_rd (wn_on rfl rfl rfl rfl) rfl (rd_bin rfl rfl rfl bo_eql) ?_
                    refine GL_rd (v := .bool _) (wn_none rfl) rfl (rd_pickT rfl rfl rfl) ?_
                    refine GL_rd (v := .bool _) (wn_none rfl) rfl (rd_move rfl rfl) ?_
                    refine GL_split (t := 91) (b := _) rfl ?_ ?_
                    · intro hb10; (try simp only [decide_eq_true_eq, decide_eq_false_iff_not, Bool.not_eq_true', Bool.not_eq_false', Bool.not_eq_eq_eq_not, Bool.not_true, Bool.not_false, Int.not_lt, Int.not_le] at hb10)
                      refine GL_rd (wn_on rfl rfl rfl rfl) rfl (rd_loadC rfl rfl Try.underlying96 rfl ts96 (hp.get 6 rfl) (by first | rfl | simp [bys_length, *])) ?_
                      refine GL_rd (v := .iface _ _) (wn_on rfl rfl rfl rfl) rfl (rd_iface rfl rfl Try.underlying96 rfl) ?_
                      refine GL_rd (v := .iface _ _) (wn_on rfl rfl rfl rfl) rfl (rd_iface rfl rfl Try.underlying110 rfl) ?_
                      refine GL_rd (v := .iface _ _) (wn_on rfl rfl rfl rfl) rfl (rd_iface rfl rfl Try.underlying110 rfl) ?_
                      refine GL_lit (L := ([ClockM.state (addN 3 4) 0, .none, .fixed 9, .fixed (-2)]).map clockV) (wn_on rfl rfl rfl rfl) rfl rfl Try.underlying109 ts156 tz156 rfl (by kernel_rfl) rfl rfl hp ?_
                      intro g8 w hp
                      refine GL_call (wn_on rfl rfl rfl rfl) rfl rfl (tick_Latest _ 4 [ClockM.state (addN 3 4) 0, .none, .fixed 9, .fixed (-2)] _ (Sl.row (hp.get 0 rfl))) rfl ?_
                      rintro _ w ⟨rfl, hk⟩
                      have hp := hp.comp hk
                      refine GL_rd (wn_on rfl rfl rfl rfl) rfl (rd_bin rfl rfl rfl bo_eql) ?_
                      refine GL_rd (v := .bool _) (wn_none rfl) rfl (rd_pickT rfl rfl rfl) ?_
                      refine GL_rd (v := .bool _) (wn_none rfl) rfl (rd_move rfl rfl) ?_
                      refine GL_split (t := 100) (b := _) rfl ?_ ?_
                      · intro hb11; (try simp only [decide_eq_true_eq, decide_eq_false_iff_not, Bool.not_eq_true', Bool.not_eq_false', Bool.not_eq_eq_eq_not, Bool.not_true, Bool.not_false, Int.not_lt, Int.not_le] at hb11)
                        refine GL_call (wn_on rfl rfl rfl rfl) rfl rfl (tick_Latest (.slice none 0 0) 0 [] _ (Sl.nil _ 1)) rfl ?_
                        rintro _ w ⟨rfl, hk⟩
                        have hp := hp.comp hk
                        refine GL_rd (wn_on rfl rfl rfl rfl) rfl (rd_bin rfl rfl rfl bo_eql) ?_
                        refine GL_rd (v := .bool _) (wn_none rfl) rfl (rd_pickT rfl rfl rfl) ?_
                        refine GL_rd (v := .bool _) (wn_none rfl) rfl (rd_move rfl rfl) ?_
                        refine GL_split (t := 104) (b := _) rfl ?_ ?_
                        · intro hb12; (try simp only [decide_eq_true_eq, decide_eq_false_iff_not, Bool.not_eq_true', Bool.not_eq_false', Bool.not_eq_eq_eq_not, Bool.not_true, Bool.not_false, Int.not_lt, Int.not_le] at hb12)
                          refine GL_rd (wn_on rfl rfl rfl rfl) rfl (rd_buildS (L := [.int .i64 (-1), .int .i64 0]) rfl tz96 pl96 (by kernel_rfl)) ?_
                          refine GL_call (wn_on rfl rfl rfl rfl) rfl rfl (tick_Check (-1) 0 _) rfl ?_
                          rintro _ w ⟨rfl, hk⟩
                          have hp := hp.comp hk
                          refine GL_rd (wn_on rfl rfl rfl rfl) rfl (rd_bin rfl rfl rfl bo_eql) ?_
                          refine GL_rd (v := .bool _) (wn_none rfl) rfl (rd_pickT rfl rfl rfl) ?_
                          refine GL_rd (v := .bool _) (wn_none rfl) rfl (rd_move rfl rfl) ?_
                          refine GL_split (t := 109) (b := _) rfl ?_ ?_
                          · intro hb13; (try simp only [decide_eq_true_eq, decide_eq_false_iff_not, Bool.not_eq_true', Bool.not_eq_false', Bool.not_eq_eq_eq_not, Bool.not_true, Bool.not_false, Int.not_lt, Int.not_le] at hb13)
                            refine GL_rd (wn_on rfl rfl rfl rfl) rfl (rd_loadC rfl rfl Try.underlying96 rfl ts96 (hp.get 7 rfl) (by first | rfl | simp [bys_length, *])) ?_
                            refine GL_call (wn_on rfl rfl rfl rfl) rfl rfl (tick_Time (addN 3 4) 0 _) rfl ?_
                            rintro _ w ⟨rfl, hk⟩
                            have hp := hp.comp hk
                            refine GL_rd (wn_on rfl rfl rfl rfl) rfl (rd_bin rfl rfl rfl bo_eql) ?_
                            refine GL_rd (v := .bool _) (wn_none rfl) rfl (rd_pickT rfl rfl rfl) ?_
                            refine GL_rd (v := .bool _) (wn_none rfl) rfl (rd_assign rfl rfl) ?_
                            refine GL_nil ?_
                            refine GW_ret ?_
                            exact ⟨_, res1 Try.results64 (rv_tmp (v := .bool _) rfl rfl), rfl, hp.mods⟩
                          · intro hb13; (try simp only [decide_eq_true_eq, decide_eq_false_iff_not, Bool.not_eq_true', Bool.not_eq_false', Bool.not_eq_eq_eq_not, Bool.not_true, Bool.not_false, Int.not_lt, Int.not_le] at hb13)
                            all_goals first | exact absurd rfl hb13 | exact absurd hb13 (by decide) | exact absurd hb13 (by simp [tickE])
                        · intro hb12; (try simp only [decide_eq_true_eq, decide_eq_false_iff_not, Bool.not_eq_true', Bool.not_eq_false', Bool.not_eq_eq_eq_not, Bool.not_true, Bool.not_false, Int.not_lt, Int.not_le] at hb12)
                          all_goals first | exact absurd rfl hb12 | exact absurd hb12 (by decide) | exact absurd hb12 (by simp [tickE])
                      · intro hb11; (try simp only [decide_eq_true_eq, decide_eq_false_iff_not, Bool.not_eq_true', Bool.not_eq_false', Bool.not_eq_eq_eq_not, Bool.not_true, Bool.not_false, Int.not_lt, Int.not_le] at hb11)
                        all_goals first | exact absurd rfl hb11 | exact absurd hb11 (by decide) | exact absurd hb11 (by simp [tickE])
                    · intro hb10; (try simp only [decide_eq_true_eq, decide_eq_false_iff_not, Bool.not_eq_true', Bool.not_eq_false', Bool.not_eq_eq_eq_not, Bool.not_true, Bool.not_false, Int.not_lt, Int.not_le] at hb10)
                      all_goals first | exact absurd rfl hb10 | exact absurd hb10 (by decide) | exact absurd hb10 (by simp [tickE])
                  · intro hb9; (try simp only [decide_eq_true_eq, decide_eq_false_iff_not, Bool.not_eq_true', Bool.not_eq_false', Bool.not_eq_eq_eq_not, Bool.not_true, Bool.not_false, Int.not_lt, Int.not_le] at hb9)
                    all_goals first | exact absurd rfl hb9 | exact absurd hb9 (by decide) | exact absurd hb9 (by simp [tickE])
                · intro hb8; (try simp only [decide_eq_true_eq, decide_eq_false_iff_not, Bool.not_eq_true', Bool.not_eq_false', Bool.not_eq_eq_eq_not, Bool.not_true, Bool.not_false, Int.not_lt, Int.not_le] at hb8)
                  all_goals first | exact absurd rfl hb8 | exact absurd hb8 (by decide) | exact absurd hb8 (by simp [tickE])
              · intro hb7; (try simp only [decide_eq_true_eq, decide_eq_false_iff_not, Bool.not_eq_true', Bool.not_eq_false', Bool.not_eq_eq_eq_not, Bool.not_true, Bool.not_false, Int.not_lt, Int.not_le] at hb7)
                all_goals first | exact absurd rfl hb7 | exact absurd hb7 (by decide) | exact absurd hb7 (by simp [tickE])
            · intro hb6; (try simp only [decide_eq_true_eq, decide_eq_false_iff_not, Bool.not_eq_true', Bool.not_eq_false', Bool.not_eq_eq_eq_not, Bool.not_true, Bool.not_false, Int.not_lt, Int.not_le] at hb6)
              all_goals first | exact absurd rfl hb6 | exact absurd hb6 (by decide) | exact absurd hb6 (by simp [tickE])
          · intro hb5; (try simp only [decide_eq_true_eq, decide_eq_false_iff_not, Bool.not_eq_true', Bool.not_eq_false', Bool.not_eq_eq_eq_not, Bool.not_true, Bool.not_false, Int.not_lt, Int.not_le] at hb5)
            all_goals first | exact absurd rfl hb5 | exact absurd hb5 (by decide) | exact absurd hb5 (by simp [tickE])
        · intro hb4; (try simp only [decide_eq_true_eq, decide_eq_false_iff_not, Bool.not_eq_true', Bool.not_eq_false', Bool.not_eq_eq_eq_not, Bool.not_true, Bool.not_false, Int.not_lt, Int.not_le] at hb4)
          all_goals first | exact absurd rfl hb4 | exact absurd hb4 (by decide) | exact absurd hb4 (by simp [tickE])
      · intro hb3; (try simp only [decide_eq_true_eq, decide_eq_false_iff_not, Bool.not_eq_true', Bool.not_eq_false', Bool.not_eq_eq_eq_not, Bool.not_true, Bool.not_false, Int.not_lt, Int.not_le] at hb3)
        all_goals first | exact absurd rfl hb3 | exact absurd hb3 (by decide) | exact absurd hb3 (by simp [tickE])
    · intro hb2; (try simp only [decide_eq_true_eq, decide_eq_false_iff_not, Bool.not_eq_true', Bool.not_eq_false', Bool.not_eq_eq_eq_not, Bool.not_true, Bool.not_false, Int.not_lt, Int.not_le] at hb2)
      all_goals first | exact absurd rfl hb2 | exact absurd hb2 (by decide) | exact absurd hb2 (by simp [tickE])
  · intro hb; (try simp only [decide_eq_true_eq, decide_eq_false_iff_not, Bool.not_eq_true', Bool.not_eq_false', Bool.not_eq_eq_eq_not, Bool.not_true, Bool.not_false, Int.not_lt, Int.not_le] at hb)
    all_goals first | exact absurd rfl hb | exact absurd hb (by decide) | exact absurd hb (by simp [tickE])

theorem law_TickLatest (sv1 : Value) (m1 : Nat) (l1 : List Int) (sv2 : Value) (m2 : Nat) (l2 : List Int) (w0 : World) (hs1 : Sl w0 sv1 1 m1 (l1.map (Value.int .i64))) (hs2 : Sl w0 sv2 1 m2 (l2.map (Value.int .i64))) : Does Try.prog 13 #[sv1, sv2] w0 fun v w' => v = .bool true ∧ Hp w0 [] w' [] := by
  obtain ⟨A1, c1, rfl⟩ := sl_shape hs1
  have hl1 : l1.length = m1 := by have := hs1.len; simpa using this
  obtain ⟨A2, c2, rfl⟩ := sl_shape hs2
  have hl2 : l2.length = m2 := by have := hs2.len; simpa using this
  refine does_of (l := [.slice A1 m1 c1, .slice A2 m2 c2]) Try.func13 (by kernel_rfl) rfl Try.ntmps13 rfl rfl ?_
  have hp := Hp.refl w0 []
  refine GW_seq ?_
  refine GW_region ?_
  refine GL_rd (v := .bool _) (wn_none rfl) rfl (rd_assign rfl rfl) ?_
  refine GL_nil ?_
  refine GW_seq ?_
  refine GW_seq ?_
  refine GW_region ?_
  refine GL_rd (v := .slice _ _ _) (wn_none rfl) rfl (rd_move rfl rfl) ?_
  refine GL_rd (wn_none rfl) rfl (rd_len rfl rfl Try.underlying81) ?_
  refine GL_rd (wn_none rfl) rfl (rd_bin rfl rfl rfl bo_gtr) ?_
  refine GL_rd (v := .bool _) (wn_none rfl) rfl (rd_move rfl rfl) ?_
  refine GL_split (t := 12) (b := _) rfl ?_ ?_
  · intro hb; (try simp only [decide_eq_true_eq, decide_eq_false_iff_not, Bool.not_eq_true', Bool.not_eq_false', Bool.not_eq_eq_eq_not, Bool.not_true, Bool.not_false, Int.not_lt, Int.not_le] at hb)
    refine GL_pass (nw_off rfl rfl rfl rfl rfl) rfl ?_
    refine GL_pass (nw_off rfl rfl rfl rfl rfl) rfl ?_
    refine GL_pass (nw_off rfl rfl rfl rfl rfl) rfl ?_
    refine GL_rd (v := .bool _) (wn_none rfl) rfl (rd_pickT rfl rfl rfl) ?_
    refine GL_nil ?_
    refine GW_true rfl ?_
    refine GW_seq ?_
    refine GW_region ?_
    refine GL_call (wn_none rfl) rfl rfl (tick_works _) rfl ?_
    rintro _ w ⟨rfl, hk⟩
    have hp := hp.comp hk
    refine GL_rd (v := .bool _) (wn_none rfl) rfl (rd_assign rfl rfl) ?_
    refine GL_nil ?_
    refine GW_ret ?_
    exact ⟨_, res1 Try.results13 (rv_tmp (v := .bool _) rfl rfl), rfl, hp.mods⟩
  · intro hb; (try simp only [decide_eq_true_eq, decide_eq_false_iff_not, Bool.not_eq_true', Bool.not_eq_false', Bool.not_eq_eq_eq_not, Bool.not_true, Bool.not_false, Int.not_lt, Int.not_le] at hb)
    refine GL_rd (v := .slice _ _ _) (wn_on rfl rfl rfl rfl) rfl (rd_move rfl rfl) ?_
    refine GL_rd (wn_on rfl rfl rfl rfl) rfl (rd_len rfl rfl Try.underlying81) ?_
    refine GL_rd (wn_on rfl rfl rfl rfl) rfl (rd_bin rfl rfl rfl bo_gtr) ?_
    refine GL_rd (v := .bool _) (wn_none rfl) rfl (rd_pickF rfl rfl rfl) ?_
    refine GL_nil ?_
    refine GW_cond rfl (fun hb2 => ?_) (fun hb2 => ?_)
    · (try simp only [decide_eq_true_eq, decide_eq_false_iff_not, Bool.not_eq_true', Bool.not_eq_false', Bool.not_eq_eq_eq_not, Bool.not_true, Bool.not_false, Int.not_lt, Int.not_le] at hb2)
      refine GW_seq ?_
      refine GW_region ?_
      refine GL_call (wn_none rfl) rfl rfl (tick_works _) rfl ?_
      rintro _ w ⟨rfl, hk⟩
      have hp := hp.comp hk
      refine GL_rd (v := .bool _) (wn_none rfl) rfl (rd_assign rfl rfl) ?_
      refine GL_nil ?_
      refine GW_ret ?_
      exact ⟨_, res1 Try.results13 (rv_tmp (v := .bool _) rfl rfl), rfl, hp.mods⟩
    · (try simp only [decide_eq_true_eq, decide_eq_false_iff_not, Bool.not_eq_true', Bool.not_eq_false', Bool.not_eq_eq_eq_not, Bool.not_true, Bool.not_false, Int.not_lt, Int.not_le] at hb2)
      refine GW_skip ?_
      refine GW_seq ?_
      refine GW_region ?_
      refine GL_rd (v := .slice _ _ _) (wn_none rfl) rfl (rd_assign rfl rfl) ?_
      refine GL_nil ?_
      refine GW_seq ?_
      refine GW_region ?_
      refine GL_rd (v := .int _ _) (wn_none rfl) rfl (rd_assign rfl rfl) ?_
      refine GL_nil ?_
      refine GW_seq ?_
      refine GW_seq ?_
      refine GW_region ?_
      refine GL_rd (v := .int _ _) (wn_none rfl) rfl (rd_assign rfl rfl) ?_
      refine GL_nil ?_
      refine GW_block ?_
      refine GW_loop ?_
      refine Lp_ind (α := Nat × Value) (fun a f w' => match a with | (i, v) => ∃ fz, f = (upd (upd (upd (upd (upd fz 0 (.slice A1 m1 c1)) 1 (.slice A2 m2 c2)) 5 (v)) 6 (.int .i64 (latestL (fixL (l1.take i))))) 7 (.int .i64 (i : Int))) ∧ Hp w0 [] w' [.row 156 1 v i ((fixL (l1.take i)).map clockV)] ∧ (i ≤ m1)) (fun a => match a with | (i, v) => m1 - i) ?_ (0, .slice none 0 0) _ _ ?_
      · rintro ⟨i, v⟩ f wz ⟨fz, rfl, hp, hi0⟩ ihL0
        refine Lp_round ?_
        refine GW_seq ?_
        refine GW_seq ?_
        refine GW_region ?_
        refine GL_rd (v := .int _ _) (wn_none rfl) rfl (rd_move rfl rfl) ?_
        refine GL_rd (v := .slice _ _ _) (wn_none rfl) rfl (rd_move rfl rfl) ?_
        refine GL_rd (wn_none rfl) rfl (rd_len rfl rfl Try.underlying81) ?_
        refine GL_rd (wn_none rfl) rfl (rd_bin rfl rfl rfl bo_lss) ?_
        refine GL_nil ?_
        refine GW_cond rfl (fun hb3 => ?_) (fun hb3 => ?_)
        · (try simp only [decide_eq_true_eq, decide_eq_false_iff_not, Bool.not_eq_true', Bool.not_eq_false', Bool.not_eq_eq_eq_not, Bool.not_true, Bool.not_false, Int.not_lt, Int.not_le] at hb3)
          obtain ⟨y, hy⟩ : ∃ y, l1[i]? = some y := ⟨_, List.getElem?_eq_getElem (by omega)⟩
          obtain ⟨gA, bA, rfl⟩ := hs1.addr (by rw [List.length_map]; omega)
          refine GW_skip ?_
          refine GW_seq ?_
          refine GW_block ?_
          refine GW_seq ?_
          refine GW_region ?_
          refine GL_rd (v := v) (wn_none rfl) rfl (rd_move rfl rfl) ?_
          refine GL_rd (v := .slice _ _ _) (wn_none rfl) rfl (rd_move rfl rfl) ?_
          refine GL_rd (v := .int _ _) (wn_none rfl) rfl (rd_move rfl rfl) ?_
          refine GL_rd (wn_none rfl) rfl (rd_indexS (j := i) rfl rfl rfl Try.underlying81 ts3 rfl (by omega) _ rfl) ?_
          refine GL_rd (wn_none rfl) rfl (rd_load rfl rfl Try.underlying3 rfl ((hs1.keep hp.mod).get (i * 1) _ (by rw [Nat.mul_one, List.getElem?_map, hy]; rfl))) ?_
          refine GL_rd (v := .iface _ _) (wn_none rfl) rfl (rd_iface rfl rfl Try.underlying110 rfl) ?_
          refine GL_lit (L := [clockV (.fixed y)]) (wn_none rfl) rfl rfl Try.underlying109 ts156 tz156 rfl (by kernel_rfl) rfl rfl hp ?_
          intro g w hp
          refine GL_append (i := 1) (wn_none rfl) rfl rfl rfl rfl Try.underlying109 ti156 rfl (by decide) hp rfl (Sl.row (hp.get 0 rfl)) (one1 rfl) (by omega) (by omega) ?_
          intro v w hp
          refine GL_rd (v := v) (wn_none rfl) rfl (rd_assign rfl rfl) ?_
          refine GL_nil ?_
          refine GW_region ?_
          refine GL_rd (v := .int _ _) (wn_none rfl) rfl (rd_move rfl rfl) ?_
          refine GL_rd (v := .slice _ _ _) (wn_none rfl) rfl (rd_move rfl rfl) ?_
          refine GL_rd (v := .int _ _) (wn_none rfl) rfl (rd_move rfl rfl) ?_
          refine GL_rd (wn_none rfl) rfl (rd_indexS (j := i) rfl rfl rfl Try.underlying81 ts3 rfl (by omega) _ rfl) ?_
          refine GL_rd (wn_none rfl) rfl (rd_load rfl rfl Try.underlying3 rfl ((hs1.keep hp.mod).get (i * 1) _ (by rw [Nat.mul_one, List.getElem?_map, hy]; rfl))) ?_
          refine GL_rd (wn_none rfl) rfl (rd_max rfl rfl rfl) ?_
          refine GL_rd (v := .int _ _) (wn_none rfl) rfl (rd_assign rfl rfl) ?_
          refine GL_nil ?_
          refine GW_region ?_
          refine GL_rd (v := .int _ _) (wn_none rfl) rfl (rd_move rfl rfl) ?_
          refine GL_rd (wn_none rfl) rfl (rd_bin rfl rfl rfl (bo_add64 (by omega))) ?_
          refine GL_rd (v := .int _ _) (wn_none rfl) rfl (rd_assign rfl rfl) ?_
          refine GL_nil ?_
          have hp := hp.drop 1
          have hp : Hp w0 [] w [.row 156 1 v (i + 1) ((fixL (l1.take (i + 1))).map clockV)] := by rw [fix_take hy, List.map_append]; exact hp
          have hst : Value.int .i64 (max (latestL (fixL (l1.take i))) y) = .int .i64 (latestL (fixL (l1.take (i + 1)))) := by rw [fix_take hy, latest_snoc]; rfl
          exact ihL0 (i + 1, v) _ _ (by simp only []; omega) ⟨_, slots5 rfl rfl rfl hst rfl, hp, by omega⟩
        · (try simp only [decide_eq_true_eq, decide_eq_false_iff_not, Bool.not_eq_true', Bool.not_eq_false', Bool.not_eq_eq_eq_not, Bool.not_true, Bool.not_false, Int.not_lt, Int.not_le] at hb3)
          obtain rfl : m1 = i := by omega
          rw [List.take_of_length_le (by omega)] at hp
          refine GW_exit ?_
          refine GW_seq ?_
          refine GW_seq ?_
          refine GW_region ?_
          refine GL_rd (v := .int _ _) (wn_none rfl) rfl (rd_assign rfl rfl) ?_
          refine GL_nil ?_
          refine GW_block ?_
          refine GW_loop ?_
          refine Lp_ind (α := Nat × Value) (fun a f w' => match a with | (j, v) => ∃ fz, f = (upd (upd (upd (upd fz 1 (.slice A2 m2 c2)) 5 (v)) 6 (.int .i64 (latestL (fixL l1 ++ pairL (l2.take j))))) 8 (.int .i64 (j : Int))) ∧ Hp w0 [] w' [.row 156 1 v (m1 + 2 * j) ((fixL l1 ++ pairL (l2.take j)).map clockV)] ∧ (j ≤ m2)) (fun a => match a with | (j, v) => m2 - j) ?_ (0, v) _ _ ?_
          · rintro ⟨j, v⟩ f wz ⟨fz, rfl, hp, hj0⟩ ihL1
            refine Lp_round ?_
            refine GW_seq ?_
            refine GW_seq ?_
            refine GW_region ?_
            refine GL_rd (v := .int _ _) (wn_none rfl) rfl (rd_move rfl rfl) ?_
            refine GL_rd (v := .slice _ _ _) (wn_none rfl) rfl (rd_move rfl rfl) ?_
            refine GL_rd (wn_none rfl) rfl (rd_len rfl rfl Try.underlying81) ?_
            refine GL_rd (wn_none rfl) rfl (rd_bin rfl rfl rfl bo_lss) ?_
            refine GL_nil ?_
            refine GW_cond rfl (fun hb4 => ?_) (fun hb4 => ?_)
            · (try simp only [decide_eq_true_eq, decide_eq_false_iff_not, Bool.not_eq_true', Bool.not_eq_false', Bool.not_eq_eq_eq_not, Bool.not_true, Bool.not_false, Int.not_lt, Int.not_le] at hb4)
              obtain ⟨y, hy⟩ : ∃ y, l2[j]? = some y := ⟨_, List.getElem?_eq_getElem (by omega)⟩
              obtain ⟨gA, bA, rfl⟩ := hs2.addr (by rw [List.length_map]; omega)
              refine GW_skip ?_
              refine GW_seq ?_
              refine GW_block ?_
              refine GW_seq ?_
              refine GW_region ?_
              refine GL_rd (v := v) (wn_none rfl) rfl (rd_move rfl rfl) ?_
              refine GL_rd (v := .slice _ _ _) (wn_none rfl) rfl (rd_move rfl rfl) ?_
              refine GL_rd (v := .int _ _) (wn_none rfl) rfl (rd_move rfl rfl) ?_
              refine GL_rd (wn_none rfl) rfl (rd_indexS (j := j) rfl rfl rfl Try.underlying81 ts3 rfl (by omega) _ rfl) ?_
              refine GL_rd (wn_none rfl) rfl (rd_load rfl rfl Try.underlying3 rfl ((hs2.keep hp.mod).get (j * 1) _ (by rw [Nat.mul_one, List.getElem?_map, hy]; rfl))) ?_
              refine GL_rd (wn_none rfl) rfl (rd_buildS (L := [.int .i64 y, .int .i64 0]) rfl tz96 pl96 (by kernel_rfl)) ?_
              refine GL_rd (v := .iface _ _) (wn_none rfl) rfl (rd_iface rfl rfl Try.underlying96 rfl) ?_
              refine GL_lit (L := [clockV (.state y 0), clockV .none]) (wn_none rfl) rfl rfl Try.underlying109 ts156 tz156 rfl (by kernel_rfl) rfl rfl hp ?_
              intro g2 w hp
              refine GL_append (i := 1) (wn_none rfl) rfl rfl rfl rfl Try.underlying109 ti156 rfl (by decide) hp rfl (Sl.row (hp.get 0 rfl)) (oneC rfl (one1 rfl)) (by omega) (by omega) ?_
              intro v2 w hp
              refine GL_rd (v := v2) (wn_none rfl) rfl (rd_assign rfl rfl) ?_
              refine GL_nil ?_
              refine GW_region ?_
              refine GL_rd (v := .int _ _) (wn_none rfl) rfl (rd_move rfl rfl) ?_
              refine GL_rd (v := .slice _ _ _) (wn_none rfl) rfl (rd_move rfl rfl) ?_
              refine GL_rd (v := .int _ _) (wn_none rfl) rfl (rd_move rfl rfl) ?_
              refine GL_rd (wn_none rfl) rfl (rd_indexS (j := j) rfl rfl rfl Try.underlying81 ts3 rfl (by omega) _ rfl) ?_
              refine GL_rd (wn_none rfl) rfl (rd_load rfl rfl Try.underlying3 rfl ((hs2.keep hp.mod).get (j * 1) _ (by rw [Nat.mul_one, List.getElem?_map, hy]; rfl))) ?_
              refine GL_rd (wn_none rfl) rfl (rd_max rfl rfl rfl) ?_
              refine GL_rd (v := .int _ _) (wn_none rfl) rfl (rd_assign rfl rfl) ?_
              refine GL_nil ?_
              refine GW_region ?_
              refine GL_rd (v := .int _ _) (wn_none rfl) rfl (rd_move rfl rfl) ?_
              refine GL_rd (wn_none rfl) rfl (rd_bin rfl rfl rfl (bo_add64 (by omega))) ?_
              refine GL_rd (v := .int _ _) (wn_none rfl) rfl (rd_assign rfl rfl) ?_
              refine GL_nil ?_
              have hp := hp.drop 1
              have hp : Hp w0 [] w [.row 156 1 v2 (m1 + 2 * j + 2) ((fixL l1 ++ pairL (l2.take (j + 1))).map clockV)] := by rw [pair_take hy, ← List.append_assoc, List.map_append]; exact hp
              have hst : Value.int .i64 (max (latestL (fixL l1 ++ pairL (l2.take j))) y) = .int .i64 (latestL (fixL l1 ++ pairL (l2.take (j + 1)))) := by rw [pair_take hy, ← List.append_assoc, latest_pair]
              exact ihL1 (j + 1, v2) _ _ (by simp only []; omega) ⟨_, slots4 rfl rfl hst rfl, hp, by omega⟩
            · (try simp only [decide_eq_true_eq, decide_eq_false_iff_not, Bool.not_eq_true', Bool.not_eq_false', Bool.not_eq_eq_eq_not, Bool.not_true, Bool.not_false, Int.not_lt, Int.not_le] at hb4)
              obtain rfl : m2 = j := by omega
              rw [List.take_of_length_le (by omega)] at hp
              refine GW_exit ?_
              refine GW_seq ?_
              refine GW_region ?_
              refine GL_rd (v := v) (wn_none rfl) rfl (rd_move rfl rfl) ?_
              refine GL_call (wn_none rfl) rfl rfl (tick_Latest _ _ (fixL l1 ++ pairL l2) _ (Sl.row (hp.get 0 rfl))) rfl ?_
              rintro _ w ⟨rfl, hk⟩
              have hp := hp.comp hk
              refine GL_rd (v := .int _ _) (wn_none rfl) rfl (rd_move rfl rfl) ?_
              refine GL_rd (wn_none rfl) rfl (rd_bin rfl rfl rfl bo_eql) ?_
              refine GL_rd (v := .bool _) (wn_none rfl) rfl (rd_move rfl rfl) ?_
              refine GL_split (t := 63) (b := _) rfl ?_ ?_
              · intro hb5; (try simp only [decide_eq_true_eq, decide_eq_false_iff_not, Bool.not_eq_true', Bool.not_eq_false', Bool.not_eq_eq_eq_not, Bool.not_true, Bool.not_false, Int.not_lt, Int.not_le] at hb5)
                refine GL_call (wn_on rfl rfl rfl rfl) rfl rfl (tick_works _) rfl ?_
                rintro _ w ⟨rfl, hk⟩
                have hp := hp.comp hk
                refine GL_rd (v := .bool _) (wn_none rfl) rfl (rd_pickT rfl rfl rfl) ?_
                refine GL_rd (v := .bool _) (wn_none rfl) rfl (rd_assign rfl rfl) ?_
                refine GL_nil ?_
                refine GW_ret ?_
                exact ⟨_, res1 Try.results13 (rv_tmp (v := .bool _) rfl rfl), rfl, hp.mods⟩
              · intro hb5; (try simp only [decide_eq_true_eq, decide_eq_false_iff_not, Bool.not_eq_true', Bool.not_eq_false', Bool.not_eq_eq_eq_not, Bool.not_true, Bool.not_false, Int.not_lt, Int.not_le] at hb5)
                exact absurd (by rw [List.take_of_length_le (by omega)]) hb5
          · rw [show fixL l1 = fixL l1 ++ pairL (l2.take 0) from by simp [pairL]] at hp
            refine ⟨_, slots4 rfl rfl (congrArg (fun z => Value.int .i64 (latestL z)) (show fixL (l1.take m1) = fixL l1 ++ pairL (l2.take 0) from by rw [List.take_of_length_le (by omega)]; simp [pairL])) rfl, hp, Nat.zero_le _⟩
      · have hp := hp.nilRow 156 1
        refine ⟨_, slots5 rfl rfl rfl rfl rfl, hp, Nat.zero_le _⟩

theorem law_TickGoes (now ser n : Int) (sv3 : Value) (m3 : Nat) (l3 : List Int) (w0 : World) (hz0 : -9223372036854775808 ≤ now ∧ now ≤ 9223372036854775807) (hz1 : -9223372036854775808 ≤ ser ∧ ser ≤ 9223372036854775807) (hz2 : -9223372036854775808 ≤ n ∧ n ≤ 9223372036854775807) (hy3 : ∀ y ∈ l3, -9223372036854775808 ≤ y ∧ y ≤ 9223372036854775807) (hs3 : Sl w0 sv3 1 m3 (l3.map (Value.int .i64))) : Does Try.prog 11 #[.int .i64 now, .int .i64 ser, .int .i64 n, sv3] w0 fun v w' => v = .bool true ∧ Hp w0 [] w' [] := by
  obtain ⟨A3, c3, rfl⟩ := sl_shape hs3
  have hl3 : l3.length = m3 := by have := hs3.len; simpa using this
  refine does_of (l := [.int .i64 now, .int .i64 ser, .int .i64 n, .slice A3 m3 c3]) Try.func11 (by kernel_rfl) rfl Try.ntmps11 rfl rfl ?_
  have hp := Hp.refl w0 []
  refine GW_seq ?_
  refine GW_region ?_
  refine GL_rd (v := .bool _) (wn_none rfl) rfl (rd_assign rfl rfl) ?_
  refine GL_nil ?_
  refine GW_seq ?_
  refine GW_seq ?_
  refine GW_region ?_
  refine GL_rd (v := .int _ _) (wn_none rfl) rfl (rd_move rfl rfl) ?_
  refine GL_rd (v := .int _ _) (wn_none rfl) rfl (rd_move rfl rfl) ?_
  refine GL_call (wn_none rfl) rfl rfl (ref_tCheck now ser _) rfl ?_
  rintro _ w ⟨rfl, hk⟩
  have hp := hp.comp hk
  refine GL_rd (wn_none rfl) rfl (rd_bin rfl rfl rfl bo_neq) ?_
  refine GL_rd (v := .bool _) (wn_none rfl) rfl (rd_move rfl rfl) ?_
  refine GL_split (t := 23) (b := _) rfl ?_ ?_
  · intro hb; (try simp only [decide_eq_true_eq, decide_eq_false_iff_not, Bool.not_eq_true', Bool.not_eq_false', Bool.not_eq_eq_eq_not, Bool.not_true, Bool.not_false, Int.not_lt, Int.not_le] at hb)
    refine GL_pass (nw_off rfl rfl rfl rfl rfl) rfl ?_
    refine GL_pass (nw_off rfl rfl rfl rfl rfl) rfl ?_
    refine GL_pass (nw_off rfl rfl rfl rfl rfl) rfl ?_
    refine GL_rd (v := .bool _) (wn_none rfl) rfl (rd_pickT rfl rfl rfl) ?_
    refine GL_nil ?_
    refine GW_true rfl ?_
    refine GW_seq ?_
    refine GW_region ?_
    refine GL_rd (v := .int _ _) (wn_none rfl) rfl (rd_move rfl rfl) ?_
    refine GL_rd (v := .int _ _) (wn_none rfl) rfl (rd_move rfl rfl) ?_
    refine GL_rd (wn_none rfl) rfl (rd_buildS (L := [.int .i64 now, .int .i64 ser]) rfl tz96 pl96 (by kernel_rfl)) ?_
    refine GL_call (wn_none rfl) rfl rfl (tick_Check now ser _) rfl ?_
    rintro _ w ⟨rfl, hk⟩
    have hp := hp.comp hk
    refine GL_rd (v := .int _ _) (wn_none rfl) rfl (rd_move rfl rfl) ?_
    refine GL_rd (v := .int _ _) (wn_none rfl) rfl (rd_move rfl rfl) ?_
    refine GL_call (wn_none rfl) rfl rfl (ref_tCheck now ser _) rfl ?_
    rintro _ w ⟨rfl, hk⟩
    have hp := hp.comp hk
    refine GL_rd (wn_none rfl) rfl (rd_bin rfl rfl rfl bo_eql) ?_
    refine GL_rd (v := .bool _) (wn_none rfl) rfl (rd_move rfl rfl) ?_
    refine GL_split (t := 36) (b := _) rfl ?_ ?_
    · intro hb2; (try simp only [decide_eq_true_eq, decide_eq_false_iff_not, Bool.not_eq_true', Bool.not_eq_false', Bool.not_eq_eq_eq_not, Bool.not_true, Bool.not_false, Int.not_lt, Int.not_le] at hb2)
      refine GL_call (wn_on rfl rfl rfl rfl) rfl rfl (tick_works _) rfl ?_
      rintro _ w ⟨rfl, hk⟩
      have hp := hp.comp hk
      refine GL_rd (v := .bool _) (wn_none rfl) rfl (rd_pickT rfl rfl rfl) ?_
      refine GL_rd (v := .bool _) (wn_none rfl) rfl (rd_assign rfl rfl) ?_
      refine GL_nil ?_
      refine GW_ret ?_
      exact ⟨_, res1 Try.results11 (rv_tmp (v := .bool _) rfl rfl), rfl, hp.mods⟩
    · intro hb2; (try simp only [decide_eq_true_eq, decide_eq_false_iff_not, Bool.not_eq_true', Bool.not_eq_false', Bool.not_eq_eq_eq_not, Bool.not_true, Bool.not_false, Int.not_lt, Int.not_le] at hb2)
      all_goals first | exact absurd rfl hb2 | exact absurd hb2 (by decide) | exact absurd hb2 (by simp [tickE])
  · intro hb; (try simp only [decide_eq_true_eq, decide_eq_false_iff_not, Bool.not_eq_true', Bool.not_eq_false', Bool.not_eq_eq_eq_not, Bool.not_true, Bool.not_false, Int.not_lt, Int.not_le] at hb)
    have hok := tickC_zero.1 hb
    have hok2 := hok
    simp only [tickOk, decide_eq_true_eq] at hok2
    have hge := addN_ge (n := n) hok2.1 hok2.2.1
    have hok3 : tickC (addN now n) ser = 0 := tickC_zero.2 (by simp only [tickOk, decide_eq_true_eq]; omega)
    refine GL_rd (v := .slice _ _ _) (wn_on rfl rfl rfl rfl) rfl (rd_move rfl rfl) ?_
    refine GL_rd (wn_on rfl rfl rfl rfl) rfl (rd_len rfl rfl Try.underlying81) ?_
    refine GL_rd (wn_on rfl rfl rfl rfl) rfl (rd_bin rfl rfl rfl bo_gtr) ?_
    refine GL_rd (v := .bool _) (wn_none rfl) rfl (rd_pickF rfl rfl rfl) ?_
    refine GL_nil ?_
    refine GW_cond rfl (fun hb3 => ?_) (fun hb3 => ?_)
    · (try simp only [decide_eq_true_eq, decide_eq_false_iff_not, Bool.not_eq_true', Bool.not_eq_false', Bool.not_eq_eq_eq_not, Bool.not_true, Bool.not_false, Int.not_lt, Int.not_le] at hb3)
      refine GW_seq ?_
      refine GW_region ?_
      refine GL_rd (v := .int _ _) (wn_none rfl) rfl (rd_move rfl rfl) ?_
      refine GL_rd (v := .int _ _) (wn_none rfl) rfl (rd_move rfl rfl) ?_
      refine GL_rd (wn_none rfl) rfl (rd_buildS (L := [.int .i64 now, .int .i64 ser]) rfl tz96 pl96 (by kernel_rfl)) ?_
      refine GL_call (wn_none rfl) rfl rfl (tick_Check now ser _) rfl ?_
      rintro _ w ⟨rfl, hk⟩
      have hp := hp.comp hk
      refine GL_rd (v := .int _ _) (wn_none rfl) rfl (rd_move rfl rfl) ?_
      refine GL_rd (v := .int _ _) (wn_none rfl) rfl (rd_move rfl rfl) ?_
      refine GL_call (wn_none rfl) rfl rfl (ref_tCheck now ser _) rfl ?_
      rintro _ w ⟨rfl, hk⟩
      have hp := hp.comp hk
      refine GL_rd (wn_none rfl) rfl (rd_bin rfl rfl rfl bo_eql) ?_
      refine GL_rd (v := .bool _) (wn_none rfl) rfl (rd_move rfl rfl) ?_
      refine GL_split (t := 36) (b := _) rfl ?_ ?_
      · intro hb4; (try simp only [decide_eq_true_eq, decide_eq_false_iff_not, Bool.not_eq_true', Bool.not_eq_false', Bool.not_eq_eq_eq_not, Bool.not_true, Bool.not_false, Int.not_lt, Int.not_le] at hb4)
        refine GL_call (wn_on rfl rfl rfl rfl) rfl rfl (tick_works _) rfl ?_
        rintro _ w ⟨rfl, hk⟩
        have hp := hp.comp hk
        refine GL_rd (v := .bool _) (wn_none rfl) rfl (rd_pickT rfl rfl rfl) ?_
        refine GL_rd (v := .bool _) (wn_none rfl) rfl (rd_assign rfl rfl) ?_
        refine GL_nil ?_
        refine GW_ret ?_
        exact ⟨_, res1 Try.results11 (rv_tmp (v := .bool _) rfl rfl), rfl, hp.mods⟩
      · intro hb4; (try simp only [decide_eq_true_eq, decide_eq_false_iff_not, Bool.not_eq_true', Bool.not_eq_false', Bool.not_eq_eq_eq_not, Bool.not_true, Bool.not_false, Int.not_lt, Int.not_le] at hb4)
        all_goals first | exact absurd rfl hb4 | exact absurd hb4 (by decide) | exact absurd hb4 (by simp [tickE])
    · (try simp only [decide_eq_true_eq, decide_eq_false_iff_not, Bool.not_eq_true', Bool.not_eq_false', Bool.not_eq_eq_eq_not, Bool.not_true, Bool.not_false, Int.not_lt, Int.not_le] at hb3)
      refine GW_skip ?_
      refine GW_seq ?_
      refine GW_region ?_
      refine GL_rd (v := .int _ _) (wn_none rfl) rfl (rd_move rfl rfl) ?_
      refine GL_rd (v := .int _ _) (wn_none rfl) rfl (rd_move rfl rfl) ?_
      refine GL_rd (wn_none rfl) rfl (rd_buildS (L := [.int .i64 now, .int .i64 ser]) rfl tz96 pl96 (by kernel_rfl)) ?_
      refine GL_alloc (wn_none rfl) rfl rfl tz96 rfl hp ?_
      intro g w hp
      refine GL_store (i := 0) (wn_none rfl) rfl rfl rfl rfl ts96 rfl rfl (oneC rfl (oneC rfl one0)) hp rfl (by first | exact Nat.le_of_ble_eq_true rfl | simp [bys_length, *]) rfl ?_
      intro w hp
      refine GL_nil ?_
      refine GW_seq ?_
      refine GW_region ?_
      refine GL_rd (wn_none rfl) rfl (rd_loadC rfl rfl Try.underlying96 rfl ts96 (hp.get 0 rfl) (by first | rfl | simp [bys_length, *])) ?_
      refine GL_rd (v := .int _ _) (wn_none rfl) rfl (rd_move rfl rfl) ?_
      refine GL_call (wn_none rfl) rfl rfl (tick_Add now ser n _ hok2.1 hok2.2.1 hz2) rfl ?_
      rintro _ w ⟨rfl, hk⟩
      have hp := hp.comp hk
      refine GL_rd (v := .tuple _) (wn_none rfl) rfl (rd_move rfl rfl) ?_
      refine GL_rd (v := .agg ⟨_⟩) (wn_none rfl) rfl (rd_extract rfl rfl rfl) ?_
      refine GL_rd (v := .int _ _) (wn_none rfl) rfl (rd_extract rfl rfl rfl) ?_
      refine GL_alloc (wn_none rfl) rfl rfl tz96 rfl hp ?_
      intro g2 w hp
      refine GL_store (i := 0) (wn_none rfl) rfl rfl rfl rfl ts96 rfl rfl (oneC rfl (oneC rfl one0)) hp rfl (by first | exact Nat.le_of_ble_eq_true rfl | simp [bys_length, *]) rfl ?_
      intro w hp
      refine GL_rd (v := .int _ _) (wn_none rfl) rfl (rd_assign rfl rfl) ?_
      refine GL_nil ?_
      refine GW_seq ?_
      refine GW_region ?_
      refine GL_rd (v := .int _ _) (wn_none rfl) rfl (rd_move rfl rfl) ?_
      refine GL_rd (v := .int _ _) (wn_none rfl) rfl (rd_move rfl rfl) ?_
      refine GL_call (wn_none rfl) rfl rfl (ref_tAdd now n _ hok2.1 hok2.2.1 hz2) rfl ?_
      rintro _ w ⟨rfl, hk⟩
      have hp := hp.comp hk
      refine GL_rd (v := .tuple _) (wn_none rfl) rfl (rd_move rfl rfl) ?_
      refine GL_rd (v := .int _ _) (wn_none rfl) rfl (rd_extract rfl rfl rfl) ?_
      refine GL_rd (v := .int _ _) (wn_none rfl) rfl (rd_extract rfl rfl rfl) ?_
      refine GL_rd (v := .int _ _) (wn_none rfl) rfl (rd_assign rfl rfl) ?_
      refine GL_rd (v := .int _ _) (wn_none rfl) rfl (rd_assign rfl rfl) ?_
      refine GL_nil ?_
      refine GW_seq ?_
      refine GW_seq ?_
      refine GW_region ?_
      refine GL_rd (wn_none rfl) rfl (rd_field rfl rfl fa96_0 _ rfl) ?_
      refine GL_rd (wn_none rfl) rfl (rd_load rfl rfl Try.underlying3 rfl ((cell_of_cells (hp.get 0 rfl) _).trans rfl)) ?_
      refine GL_rd (v := .int _ _) (wn_none rfl) rfl (rd_move rfl rfl) ?_
      refine GL_rd (wn_none rfl) rfl (rd_bin rfl rfl rfl bo_neq) ?_
      refine GL_rd (v := .bool _) (wn_none rfl) rfl (rd_move rfl rfl) ?_
      refine GL_split (t := 58) (b := _) rfl ?_ ?_
      · intro hb5; (try simp only [decide_eq_true_eq, decide_eq_false_iff_not, Bool.not_eq_true', Bool.not_eq_false', Bool.not_eq_eq_eq_not, Bool.not_true, Bool.not_false, Int.not_lt, Int.not_le] at hb5)
        all_goals first | exact absurd trivial hb5 | exact absurd rfl hb5 | omega | exact absurd hok3 hb5
      · intro hb5; (try simp only [decide_eq_true_eq, decide_eq_false_iff_not, Bool.not_eq_true', Bool.not_eq_false', Bool.not_eq_eq_eq_not, Bool.not_true, Bool.not_false, Int.not_lt, Int.not_le] at hb5)
        refine GL_rd (wn_on rfl rfl rfl rfl) rfl (rd_field rfl rfl fa96_1 _ rfl) ?_
        refine GL_rd (wn_on rfl rfl rfl rfl) rfl (rd_load rfl rfl Try.underlying3 rfl ((cell_of_cells (hp.get 0 rfl) _).trans rfl)) ?_
        refine GL_rd (v := .int _ _) (wn_on rfl rfl rfl rfl) rfl (rd_move rfl rfl) ?_
        refine GL_rd (wn_on rfl rfl rfl rfl) rfl (rd_bin rfl rfl rfl bo_neq) ?_
        refine GL_rd (v := .bool _) (wn_none rfl) rfl (rd_pickF rfl rfl rfl) ?_
        refine GL_rd (v := .bool _) (wn_none rfl) rfl (rd_move rfl rfl) ?_
        refine GL_split (t := 64) (b := _) rfl ?_ ?_
        · intro hb6; (try simp only [decide_eq_true_eq, decide_eq_false_iff_not, Bool.not_eq_true', Bool.not_eq_false', Bool.not_eq_eq_eq_not, Bool.not_true, Bool.not_false, Int.not_lt, Int.not_le] at hb6)
          all_goals first | exact absurd trivial hb6 | exact absurd rfl hb6 | omega | exact absurd hok3 hb6
        · intro hb6; (try simp only [decide_eq_true_eq, decide_eq_false_iff_not, Bool.not_eq_true', Bool.not_eq_false', Bool.not_eq_eq_eq_not, Bool.not_true, Bool.not_false, Int.not_lt, Int.not_le] at hb6)
          refine GL_rd (v := .int _ _) (wn_on rfl rfl rfl rfl) rfl (rd_move rfl rfl) ?_
          refine GL_rd (v := .int _ _) (wn_on rfl rfl rfl rfl) rfl (rd_move rfl rfl) ?_
          refine GL_rd (wn_on rfl rfl rfl rfl) rfl (rd_bin rfl rfl rfl bo_neq) ?_
          refine GL_rd (v := .bool _) (wn_none rfl) rfl (rd_pickF rfl rfl rfl) ?_
          refine GL_rd (v := .bool _) (wn_none rfl) rfl (rd_move rfl rfl) ?_
          refine GL_split (t := 69) (b := _) rfl ?_ ?_
          · intro hb7; (try simp only [decide_eq_true_eq, decide_eq_false_iff_not, Bool.not_eq_true', Bool.not_eq_false', Bool.not_eq_eq_eq_not, Bool.not_true, Bool.not_false, Int.not_lt, Int.not_le] at hb7)
            all_goals first | exact absurd trivial hb7 | exact absurd rfl hb7 | omega | exact absurd hok3 hb7
          · intro hb7; (try simp only [decide_eq_true_eq, decide_eq_false_iff_not, Bool.not_eq_true', Bool.not_eq_false', Bool.not_eq_eq_eq_not, Bool.not_true, Bool.not_false, Int.not_lt, Int.not_le] at hb7)
            refine GL_rd (wn_on rfl rfl rfl rfl) rfl (rd_field rfl rfl fa96_0 _ rfl) ?_
            refine GL_rd (wn_on rfl rfl rfl rfl) rfl (rd_load rfl rfl Try.underlying3 rfl ((cell_of_cells (hp.get 0 rfl) _).trans rfl)) ?_
            refine GL_rd (v := .int _ _) (wn_on rfl rfl rfl rfl) rfl (rd_move rfl rfl) ?_
            refine GL_rd (wn_on rfl rfl rfl rfl) rfl (rd_bin rfl rfl rfl bo_lss) ?_
            refine GL_rd (v := .bool _) (wn_none rfl) rfl (rd_pickF rfl rfl rfl) ?_
            refine GL_rd (v := .bool _) (wn_none rfl) rfl (rd_move rfl rfl) ?_
            refine GL_split (t := 75) (b := _) rfl ?_ ?_
            · intro hb8; (try simp only [decide_eq_true_eq, decide_eq_false_iff_not, Bool.not_eq_true', Bool.not_eq_false', Bool.not_eq_eq_eq_not, Bool.not_true, Bool.not_false, Int.not_lt, Int.not_le] at hb8)
              all_goals first | exact absurd trivial hb8 | exact absurd rfl hb8 | omega | exact absurd hok3 hb8
            · intro hb8; (try simp only [decide_eq_true_eq, decide_eq_false_iff_not, Bool.not_eq_true', Bool.not_eq_false', Bool.not_eq_eq_eq_not, Bool.not_true, Bool.not_false, Int.not_lt, Int.not_le] at hb8)
              refine GL_rd (wn_on rfl rfl rfl rfl) rfl (rd_loadC rfl rfl Try.underlying96 rfl ts96 (hp.get 0 rfl) (by first | rfl | simp [bys_length, *])) ?_
              refine GL_call (wn_on rfl rfl rfl rfl) rfl rfl (tick_Check (addN now n) ser _) rfl ?_
              rintro _ w ⟨rfl, hk⟩
              have hp := hp.comp hk
              refine GL_rd (wn_on rfl rfl rfl rfl) rfl (rd_bin rfl rfl rfl bo_neq) ?_
              refine GL_rd (v := .bool _) (wn_none rfl) rfl (rd_pickF rfl rfl rfl) ?_
              refine GL_nil ?_
              refine GW_cond rfl (fun hb9 => ?_) (fun hb9 => ?_)
              · (try simp only [decide_eq_true_eq, decide_eq_false_iff_not, Bool.not_eq_true', Bool.not_eq_false', Bool.not_eq_eq_eq_not, Bool.not_true, Bool.not_false, Int.not_lt, Int.not_le] at hb9)
                all_goals first | exact absurd trivial hb9 | exact absurd rfl hb9 | omega | exact absurd hok3 hb9
              · (try simp only [decide_eq_true_eq, decide_eq_false_iff_not, Bool.not_eq_true', Bool.not_eq_false', Bool.not_eq_eq_eq_not, Bool.not_true, Bool.not_false, Int.not_lt, Int.not_le] at hb9)
                refine GW_skip ?_
                refine GW_seq ?_
                refine GW_region ?_
                refine GL_rd (wn_none rfl) rfl (rd_loadC rfl rfl Try.underlying96 rfl ts96 (hp.get 1 rfl) (by first | rfl | simp [bys_length, *])) ?_
                refine GL_call (wn_none rfl) rfl rfl (tick_Deed now ser _ (by omega)) rfl ?_
                rintro _ w ⟨rfl, hk⟩
                have hp := hp.comp hk
                refine GL_rd (v := .tuple _) (wn_none rfl) rfl (rd_move rfl rfl) ?_
                refine GL_rd (v := .agg ⟨_⟩) (wn_none rfl) rfl (rd_extract rfl rfl rfl) ?_
                refine GL_rd (v := .int _ _) (wn_none rfl) rfl (rd_extract rfl rfl rfl) ?_
                refine GL_alloc (wn_none rfl) rfl rfl tz96 rfl hp ?_
                intro g3 w hp
                refine GL_store (i := 0) (wn_none rfl) rfl rfl rfl rfl ts96 rfl rfl (oneC rfl (oneC rfl one0)) hp rfl (by first | exact Nat.le_of_ble_eq_true rfl | simp [bys_length, *]) rfl ?_
                intro w hp
                refine GL_rd (v := .int _ _) (wn_none rfl) rfl (rd_assign rfl rfl) ?_
                refine GL_nil ?_
                refine GW_seq ?_
                refine GW_seq ?_
                refine GW_region ?_
                refine GL_rd (v := .int _ _) (wn_none rfl) rfl (rd_move rfl rfl) ?_
                refine GL_rd (wn_none rfl) rfl (rd_bin rfl rfl rfl bo_eql) ?_
                refine GL_rd (v := .int _ _) (wn_none rfl) rfl (rd_move rfl rfl) ?_
                refine GL_rd (wn_none rfl) rfl (rd_bin rfl rfl rfl bo_lss) ?_
                refine GL_rd (wn_none rfl) rfl (rd_bin rfl rfl rfl (bo_bneq Try.underlying4)) ?_
                refine GL_rd (v := .bool _) (wn_none rfl) rfl (rd_move rfl rfl) ?_
                refine GL_split (t := 90) (b := _) rfl ?_ ?_
                · intro hb10; (try simp only [decide_eq_true_eq, decide_eq_false_iff_not, Bool.not_eq_true', Bool.not_eq_false', Bool.not_eq_eq_eq_not, Bool.not_true, Bool.not_false, Int.not_lt, Int.not_le] at hb10)
                  exact absurd hb10 (by rw [show decide (deedC ser = 0) = decide (ser < 1099511627776) from by rw [decide_eq_decide]; unfold deedC; split <;> omega]; simp)
                · intro hb10; (try simp only [decide_eq_true_eq, decide_eq_false_iff_not, Bool.not_eq_true', Bool.not_eq_false', Bool.not_eq_eq_eq_not, Bool.not_true, Bool.not_false, Int.not_lt, Int.not_le] at hb10)
                  refine GL_rd (v := .int _ _) (wn_on rfl rfl rfl rfl) rfl (rd_move rfl rfl) ?_
                  refine GL_rd (wn_on rfl rfl rfl rfl) rfl (rd_bin rfl rfl rfl bo_neq) ?_
                  refine GL_rd (v := .bool _) (wn_on rfl rfl rfl rfl) rfl (rd_move rfl rfl) ?_
                  refine GL_split (t := 93) (b := _) rfl ?_ ?_
                  · intro hb11; (try simp only [decide_eq_true_eq, decide_eq_false_iff_not, Bool.not_eq_true', Bool.not_eq_false', Bool.not_eq_eq_eq_not, Bool.not_true, Bool.not_false, Int.not_lt, Int.not_le] at hb11)
                    have hf0 := hb11
                    have hse : 1099511627776 ≤ ser := by unfold deedC at hf0; split at hf0 <;> omega
                    have hdn : deedN ser = ser := by rw [deedN, if_pos hse]
                    refine GL_rd (v := .int _ _) (wn_on rfl rfl rfl rfl) rfl (rd_move rfl rfl) ?_
                    refine GL_rd (wn_on rfl rfl rfl rfl) rfl (rd_bin rfl rfl rfl bo_neq) ?_
                    refine GL_rd (v := .bool _) (wn_on rfl rfl rfl rfl) rfl (rd_move rfl rfl) ?_
                    refine GL_split (t := 96) (b := _) rfl ?_ ?_
                    · intro hb12; (try simp only [decide_eq_true_eq, decide_eq_false_iff_not, Bool.not_eq_true', Bool.not_eq_false', Bool.not_eq_eq_eq_not, Bool.not_true, Bool.not_false, Int.not_lt, Int.not_le] at hb12)
                      exact absurd (by rw [deedC, if_pos hse]) hb12
                    · intro hb12; (try simp only [decide_eq_true_eq, decide_eq_false_iff_not, Bool.not_eq_true', Bool.not_eq_false', Bool.not_eq_eq_eq_not, Bool.not_true, Bool.not_false, Int.not_lt, Int.not_le] at hb12)
                      refine GL_rd (wn_on rfl rfl rfl rfl) rfl (rd_loadC rfl rfl Try.underlying96 rfl ts96 (hp.get 0 rfl) (by first | rfl | simp [bys_length, *])) ?_
                      refine GL_rd (wn_on rfl rfl rfl rfl) rfl (rd_loadC rfl rfl Try.underlying96 rfl ts96 (hp.get 2 rfl) (by first | rfl | simp [bys_length, *])) ?_
                      refine GL_rd (wn_on rfl rfl rfl rfl) rfl (rd_bin rfl rfl rfl (bo_ints (xs := [now, deedN ser]) (ys := [now, ser]) ia96 rfl rfl).2) ?_
                      refine GL_rd (v := .bool _) (wn_on rfl rfl rfl rfl) rfl (rd_pickF rfl rfl rfl) ?_
                      refine GL_rd (v := .bool _) (wn_on rfl rfl rfl rfl) rfl (rd_pickT rfl rfl rfl) ?_
                      refine GL_rd (v := .bool _) (wn_none rfl) rfl (rd_pickF rfl rfl rfl) ?_
                      refine GL_rd (v := .bool _) (wn_none rfl) rfl (rd_move rfl rfl) ?_
                      refine GL_split (t := 103) (b := _) rfl ?_ ?_
                      · intro hb13; (try simp only [decide_eq_true_eq, decide_eq_false_iff_not, Bool.not_eq_true', Bool.not_eq_false', Bool.not_eq_eq_eq_not, Bool.not_true, Bool.not_false, Int.not_lt, Int.not_le] at hb13)
                        exact absurd (by rw [hdn]) hb13
                      · intro hb13; (try simp only [decide_eq_true_eq, decide_eq_false_iff_not, Bool.not_eq_true', Bool.not_eq_false', Bool.not_eq_eq_eq_not, Bool.not_true, Bool.not_false, Int.not_lt, Int.not_le] at hb13)
                        refine GL_rd (v := .int _ _) (wn_on rfl rfl rfl rfl) rfl (rd_move rfl rfl) ?_
                        refine GL_rd (wn_on rfl rfl rfl rfl) rfl (rd_bin rfl rfl rfl bo_eql) ?_
                        refine GL_rd (v := .bool _) (wn_on rfl rfl rfl rfl) rfl (rd_move rfl rfl) ?_
                        refine GL_split (t := 106) (b := _) rfl ?_ ?_
                        · intro hb14; (try simp only [decide_eq_true_eq, decide_eq_false_iff_not, Bool.not_eq_true', Bool.not_eq_false', Bool.not_eq_eq_eq_not, Bool.not_true, Bool.not_false, Int.not_lt, Int.not_le] at hb14)
                          exact absurd hb14 hf0
                        · intro hb14; (try simp only [decide_eq_true_eq, decide_eq_false_iff_not, Bool.not_eq_true', Bool.not_eq_false', Bool.not_eq_eq_eq_not, Bool.not_true, Bool.not_false, Int.not_lt, Int.not_le] at hb14)
                          refine GL_pass (nw_off rfl rfl rfl rfl rfl) rfl ?_
                          refine GL_pass (nw_off rfl rfl rfl rfl rfl) rfl ?_
                          refine GL_pass (nw_off rfl rfl rfl rfl rfl) rfl ?_
                          refine GL_pass (nw_off rfl rfl rfl rfl rfl) rfl ?_
                          refine GL_pass (nw_off rfl rfl rfl rfl rfl) rfl ?_
                          refine GL_pass (nw_off rfl rfl rfl rfl rfl) rfl ?_
                          refine GL_pass (nw_undef rfl rfl rfl rfl) rfl ?_
                          refine GL_pass (nw_undef rfl rfl rfl rfl) rfl ?_
                          refine GL_pass (nw_undef rfl rfl rfl rfl) rfl ?_
                          refine GL_pass (nw_undef rfl rfl rfl rfl) rfl ?_
                          refine GL_pass (nw_off rfl rfl rfl rfl rfl) rfl ?_
                          refine GL_rd (v := .bool _) (wn_on rfl rfl rfl rfl) rfl (rd_pickF rfl rfl rfl) ?_
                          refine GL_rd (v := .bool _) (wn_none rfl) rfl (rd_pickF rfl rfl rfl) ?_
                          refine GL_nil ?_
                          refine GW_false rfl ?_
                          refine GW_skip ?_
                          refine GW_seq ?_
                          refine GW_seq ?_
                          refine GW_region ?_
                          refine GL_rd (v := .int _ _) (wn_none rfl) rfl (rd_assign rfl rfl) ?_
                          refine GL_nil ?_
                          refine GW_block ?_
                          refine GW_loop ?_
                          refine Lp_ind (α := Nat × Int) (fun a f w' => match a with | (i, nw) => ∃ fz, f = (upd (upd (upd fz 3 (.slice A3 m3 c3)) 9 (.pointer (some ⟨g, 0, none⟩))) 16 (.int .i64 (i : Int))) ∧ Hp w0 [] w' [cells g 96 [.int .i64 nw, .int .i64 ser]] ∧ (i ≤ m3) ∧ (0 ≤ nw ∧ nw ≤ 1099511627776)) (fun a => match a with | (i, nw) => m3 - i) ?_ (0, now) _ _ ?_
                          · rintro ⟨i, nw⟩ f wz ⟨fz, rfl, hp, hi0, hnw⟩ ihL0
                            refine Lp_round ?_
                            refine GW_seq ?_
                            refine GW_seq ?_
                            refine GW_region ?_
                            refine GL_rd (v := .int _ _) (wn_none rfl) rfl (rd_move rfl rfl) ?_
                            refine GL_rd (v := .slice _ _ _) (wn_none rfl) rfl (rd_move rfl rfl) ?_
                            refine GL_rd (wn_none rfl) rfl (rd_len rfl rfl Try.underlying81) ?_
                            refine GL_rd (wn_none rfl) rfl (rd_bin rfl rfl rfl bo_lss) ?_
                            refine GL_nil ?_
                            refine GW_cond rfl (fun hb15 => ?_) (fun hb15 => ?_)
                            · (try simp only [decide_eq_true_eq, decide_eq_false_iff_not, Bool.not_eq_true', Bool.not_eq_false', Bool.not_eq_eq_eq_not, Bool.not_true, Bool.not_false, Int.not_lt, Int.not_le] at hb15)
                              obtain ⟨y, hy⟩ : ∃ y, l3[i]? = some y := ⟨_, List.getElem?_eq_getElem (by omega)⟩
                              obtain ⟨gA, bA, rfl⟩ := hs3.addr (by rw [List.length_map]; omega)
                              have hyb := hy3 y (List.mem_of_getElem? hy)
                              have hge2 := addN_ge (n := y) hnw.1 hnw.2
                              refine GW_skip ?_
                              refine GW_seq ?_
                              refine GW_block ?_
                              refine GW_seq ?_
                              refine GW_drawnK 12 (.one 0 true (.one 1 true (.one 2 true (.one 3 true (.one 4 true (.two 5 9 (.one 6 true (.one 7 true (.one 8 true (.one 9 false (.one 10 false (.one 11 true .nil)))))) (.one 5 false (.one 6 true (.one 7 true (.one 8 true (.one 10 false (.one 11 true .nil)))))))))))) mixed (by kernel_rfl) hp (fun _ h => h) fun w hp => ?_
                              have hpS := hp
                              refine GO_rd rfl (wn_none rfl) rfl hpS (fun w hp => (rd_loadC rfl rfl Try.underlying96 rfl ts96 (hp.get 0 rfl) (by first | rfl | simp [bys_length, *]))) ?_
                              refine GO_rd (v := .slice _ _ _) rfl (wn_none rfl) rfl hpS (fun w hp => (rd_move rfl rfl)) ?_
                              refine GO_rd (v := .int _ _) rfl (wn_none rfl) rfl hpS (fun w hp => (rd_move rfl rfl)) ?_
                              refine GO_rd rfl (wn_none rfl) rfl hpS (fun w hp => (rd_indexS (j := i) rfl rfl rfl Try.underlying81 ts3 rfl (by omega) _ rfl)) ?_
                              refine GO_rd rfl (wn_none rfl) rfl hpS (fun w hp => (rd_load rfl rfl Try.underlying3 rfl ((hs3.keep hp.mod).get (i * 1) _ (by rw [Nat.mul_one, List.getElem?_map, hy]; rfl)))) ?_
                              refine GO_two rfl rfl ?_ ?_
                              · skip
                                refine GC_of_GL ?_
                                refine GL_call (wn_none rfl) rfl rfl (tick_Add nw ser y _ hnw.1 hnw.2 hyb) rfl ?_
                                rintro _ w ⟨rfl, hk⟩
                                have hp := hp.comp hk
                                have hpS2 := hp
                                refine GL_nil ⟨fun _ => hpS2, ?_⟩
                                refine GO_rd (v := .tuple _) rfl (wn_none rfl) rfl hpS2 (fun w hp => (rd_move rfl rfl)) ?_
                                refine GO_rd (v := .agg ⟨_⟩) rfl (wn_none rfl) rfl hpS2 (fun w hp => (rd_extract rfl rfl rfl)) ?_
                                refine GO_rd (v := .int _ _) rfl (wn_none rfl) rfl hpS2 (fun w hp => (rd_extract rfl rfl rfl)) ?_
                                refine GO_of_GL rfl ?_
                                refine GL_alloc (wn_none rfl) rfl rfl tz96 rfl hp ?_
                                intro g4 w hp
                                have hpS3 := (hp.sub (.cons _ (.cons_cons _ .slnil)))
                                refine GL_nil ⟨fun _ => hpS3, ?_⟩
                                refine GO_of_GL rfl ?_
                                refine GL_store (i := 0) (wn_none rfl) rfl rfl rfl rfl ts96 rfl rfl (oneC rfl (oneC rfl one0)) hp rfl (by first | exact Nat.le_of_ble_eq_true rfl | simp [bys_length, *]) rfl ?_
                                intro w hp
                                have hpS4 := (hp.sub (.cons _ (.cons_cons _ .slnil)))
                                refine GL_nil ⟨fun _ => hpS4, ?_⟩
                                refine GO_rd (v := .int _ _) rfl (wn_none rfl) rfl hpS4 (fun w hp => (rd_assign rfl rfl)) ?_
                                refine GO_nil ?_
                                refine GW_seq ?_
                                refine GW_seq ?_
                                refine GW_region ?_
                                refine GL_rd (wn_none rfl) rfl (rd_field rfl rfl fa96_0 _ rfl) ?_
                                refine GL_rd (wn_none rfl) rfl (rd_load rfl rfl Try.underlying3 rfl ((cell_of_cells (hp.get 0 rfl) _).trans rfl)) ?_
                                refine GL_rd (wn_none rfl) rfl (rd_field rfl rfl fa96_0 _ rfl) ?_
                                refine GL_rd (wn_none rfl) rfl (rd_load rfl rfl Try.underlying3 rfl ((cell_of_cells (hp.get 1 rfl) _).trans rfl)) ?_
                                refine GL_rd (wn_none rfl) rfl (rd_bin rfl rfl rfl bo_lss) ?_
                                refine GL_rd (v := .bool _) (wn_none rfl) rfl (rd_move rfl rfl) ?_
                                refine GL_split (t := 140) (b := _) rfl ?_ ?_
                                · intro hb16; (try simp only [decide_eq_true_eq, decide_eq_false_iff_not, Bool.not_eq_true', Bool.not_eq_false', Bool.not_eq_eq_eq_not, Bool.not_true, Bool.not_false, Int.not_lt, Int.not_le] at hb16)
                                  omega
                                · intro hb16; (try simp only [decide_eq_true_eq, decide_eq_false_iff_not, Bool.not_eq_true', Bool.not_eq_false', Bool.not_eq_eq_eq_not, Bool.not_true, Bool.not_false, Int.not_lt, Int.not_le] at hb16)
                                  refine GL_rd (wn_on rfl rfl rfl rfl) rfl (rd_field rfl rfl fa96_0 _ rfl) ?_
                                  refine GL_rd (wn_on rfl rfl rfl rfl) rfl (rd_load rfl rfl Try.underlying3 rfl ((cell_of_cells (hp.get 0 rfl) _).trans rfl)) ?_
                                  refine GL_rd (wn_on rfl rfl rfl rfl) rfl (rd_bin rfl rfl rfl bo_gtr) ?_
                                  refine GL_rd (v := .bool _) (wn_none rfl) rfl (rd_pickF rfl rfl rfl) ?_
                                  refine GL_nil ?_
                                  refine GW_cond rfl (fun hb17 => ?_) (fun hb17 => ?_)
                                  · (try simp only [decide_eq_true_eq, decide_eq_false_iff_not, Bool.not_eq_true', Bool.not_eq_false', Bool.not_eq_eq_eq_not, Bool.not_true, Bool.not_false, Int.not_lt, Int.not_le] at hb17)
                                    omega
                                  · (try simp only [decide_eq_true_eq, decide_eq_false_iff_not, Bool.not_eq_true', Bool.not_eq_false', Bool.not_eq_eq_eq_not, Bool.not_true, Bool.not_false, Int.not_lt, Int.not_le] at hb17)
                                    refine GW_skip ?_
                                    refine GW_region ?_
                                    refine GL_rd (wn_none rfl) rfl (rd_loadC rfl rfl Try.underlying96 rfl ts96 (hp.get 0 rfl) (by first | rfl | simp [bys_length, *])) ?_
                                    refine GL_store (i := 1) (wn_none rfl) rfl rfl rfl rfl ts96 rfl rfl (oneC rfl (oneC rfl one0)) hp rfl (by first | exact Nat.le_of_ble_eq_true rfl | simp [bys_length, *]) rfl ?_
                                    intro w hp
                                    refine GL_nil ?_
                                    refine GW_region ?_
                                    refine GL_rd (v := .int _ _) (wn_none rfl) rfl (rd_move rfl rfl) ?_
                                    refine GL_rd (wn_none rfl) rfl (rd_bin rfl rfl rfl (bo_add64 (by omega))) ?_
                                    refine GL_rd (v := .int _ _) (wn_none rfl) rfl (rd_assign rfl rfl) ?_
                                    refine GL_nil ?_
                                    have hp := hp.drop 1
                                    exact ihL0 (i + 1, addN nw y) _ _ (by simp only []; omega) ⟨_, slots3 rfl rfl rfl, hp, by omega, by omega⟩
                              · skip
                                refine GC_of_GL ?_
                                refine GL_alloc (wn_none rfl) rfl rfl tz96 rfl hp ?_
                                intro g5 w hp
                                have hpS5 := (hp.sub (.cons _ (.cons_cons _ .slnil)))
                                refine GL_nil ⟨fun _ => hpS5, ?_⟩
                                refine GO_of_GL rfl ?_
                                refine GL_call (wn_none rfl) rfl rfl (tick_Add nw ser y _ hnw.1 hnw.2 hyb) rfl ?_
                                rintro _ w ⟨rfl, hk⟩
                                have hp := hp.comp hk
                                have hpS6 := (hp.sub (.cons _ (.cons_cons _ .slnil)))
                                refine GL_nil ⟨fun _ => hpS6, ?_⟩
                                refine GO_rd (v := .tuple _) rfl (wn_none rfl) rfl hpS6 (fun w hp => (rd_move rfl rfl)) ?_
                                refine GO_rd (v := .agg ⟨_⟩) rfl (wn_none rfl) rfl hpS6 (fun w hp => (rd_extract rfl rfl rfl)) ?_
                                refine GO_rd (v := .int _ _) rfl (wn_none rfl) rfl hpS6 (fun w hp => (rd_extract rfl rfl rfl)) ?_
                                refine GO_of_GL rfl ?_
                                refine GL_store (i := 0) (wn_none rfl) rfl rfl rfl rfl ts96 rfl rfl (oneC rfl (oneC rfl one0)) hp rfl (by first | exact Nat.le_of_ble_eq_true rfl | simp [bys_length, *]) rfl ?_
                                intro w hp
                                have hpS7 := (hp.sub (.cons _ (.cons_cons _ .slnil)))
                                refine GL_nil ⟨fun _ => hpS7, ?_⟩
                                refine GO_rd (v := .int _ _) rfl (wn_none rfl) rfl hpS7 (fun w hp => (rd_assign rfl rfl)) ?_
                                refine GO_nil ?_
                                refine GW_seq ?_
                                refine GW_seq ?_
                                refine GW_region ?_
                                refine GL_rd (wn_none rfl) rfl (rd_field rfl rfl fa96_0 _ rfl) ?_
                                refine GL_rd (wn_none rfl) rfl (rd_load rfl rfl Try.underlying3 rfl ((cell_of_cells (hp.get 0 rfl) _).trans rfl)) ?_
                                refine GL_rd (wn_none rfl) rfl (rd_field rfl rfl fa96_0 _ rfl) ?_
                                refine GL_rd (wn_none rfl) rfl (rd_load rfl rfl Try.underlying3 rfl ((cell_of_cells (hp.get 1 rfl) _).trans rfl)) ?_
                                refine GL_rd (wn_none rfl) rfl (rd_bin rfl rfl rfl bo_lss) ?_
                                refine GL_rd (v := .bool _) (wn_none rfl) rfl (rd_move rfl rfl) ?_
                                refine GL_split (t := 140) (b := _) rfl ?_ ?_
                                · intro hb18; (try simp only [decide_eq_true_eq, decide_eq_false_iff_not, Bool.not_eq_true', Bool.not_eq_false', Bool.not_eq_eq_eq_not, Bool.not_true, Bool.not_false, Int.not_lt, Int.not_le] at hb18)
                                  omega
                                · intro hb18; (try simp only [decide_eq_true_eq, decide_eq_false_iff_not, Bool.not_eq_true', Bool.not_eq_false', Bool.not_eq_eq_eq_not, Bool.not_true, Bool.not_false, Int.not_lt, Int.not_le] at hb18)
                                  refine GL_rd (wn_on rfl rfl rfl rfl) rfl (rd_field rfl rfl fa96_0 _ rfl) ?_
                                  refine GL_rd (wn_on rfl rfl rfl rfl) rfl (rd_load rfl rfl Try.underlying3 rfl ((cell_of_cells (hp.get 0 rfl) _).trans rfl)) ?_
                                  refine GL_rd (wn_on rfl rfl rfl rfl) rfl (rd_bin rfl rfl rfl bo_gtr) ?_
                                  refine GL_rd (v := .bool _) (wn_none rfl) rfl (rd_pickF rfl rfl rfl) ?_
                                  refine GL_nil ?_
                                  refine GW_cond rfl (fun hb19 => ?_) (fun hb19 => ?_)
                                  · (try simp only [decide_eq_true_eq, decide_eq_false_iff_not, Bool.not_eq_true', Bool.not_eq_false', Bool.not_eq_eq_eq_not, Bool.not_true, Bool.not_false, Int.not_lt, Int.not_le] at hb19)
                                    omega
                                  · (try simp only [decide_eq_true_eq, decide_eq_false_iff_not, Bool.not_eq_true', Bool.not_eq_false', Bool.not_eq_eq_eq_not, Bool.not_true, Bool.not_false, Int.not_lt, Int.not_le] at hb19)
                                    refine GW_skip ?_
                                    refine GW_region ?_
                                    refine GL_rd (wn_none rfl) rfl (rd_loadC rfl rfl Try.underlying96 rfl ts96 (hp.get 0 rfl) (by first | rfl | simp [bys_length, *])) ?_
                                    refine GL_store (i := 1) (wn_none rfl) rfl rfl rfl rfl ts96 rfl rfl (oneC rfl (oneC rfl one0)) hp rfl (by first | exact Nat.le_of_ble_eq_true rfl | simp [bys_length, *]) rfl ?_
                                    intro w hp
                                    refine GL_nil ?_
                                    refine GW_region ?_
                                    refine GL_rd (v := .int _ _) (wn_none rfl) rfl (rd_move rfl rfl) ?_
                                    refine GL_rd (wn_none rfl) rfl (rd_bin rfl rfl rfl (bo_add64 (by omega))) ?_
                                    refine GL_rd (v := .int _ _) (wn_none rfl) rfl (rd_assign rfl rfl) ?_
                                    refine GL_nil ?_
                                    have hp := hp.drop 1
                                    exact ihL0 (i + 1, addN nw y) _ _ (by simp only []; omega) ⟨_, slots3 rfl rfl rfl, hp, by omega, by omega⟩
                            · (try simp only [decide_eq_true_eq, decide_eq_false_iff_not, Bool.not_eq_true', Bool.not_eq_false', Bool.not_eq_eq_eq_not, Bool.not_true, Bool.not_false, Int.not_lt, Int.not_le] at hb15)
                              refine GW_exit ?_
                              refine GW_seq ?_
                              refine GW_region ?_
                              refine GL_call (wn_none rfl) rfl rfl (tick_works _) rfl ?_
                              rintro _ w ⟨rfl, hk⟩
                              have hp := hp.comp hk
                              refine GL_rd (v := .bool _) (wn_none rfl) rfl (rd_assign rfl rfl) ?_
                              refine GL_nil ?_
                              refine GW_ret ?_
                              exact ⟨_, res1 Try.results11 (rv_tmp (v := .bool _) rfl rfl), rfl, hp.mods⟩
                          · have hp := hp.drop 2
                            refine ⟨_, slots3 rfl rfl rfl, hp, Nat.zero_le _, ⟨hok2.1, hok2.2.1⟩⟩
                  · intro hb11; (try simp only [decide_eq_true_eq, decide_eq_false_iff_not, Bool.not_eq_true', Bool.not_eq_false', Bool.not_eq_eq_eq_not, Bool.not_true, Bool.not_false, Int.not_lt, Int.not_le] at hb11)
                    have hf0 := hb11
                    have hse : ¬ 1099511627776 ≤ ser := by unfold deedC at hf0; split at hf0 <;> omega
                    have hdn : deedN ser = ser + 1 := by rw [deedN, if_neg hse]
                    refine GL_pass (nw_off rfl rfl rfl rfl rfl) rfl ?_
                    refine GL_pass (nw_off rfl rfl rfl rfl rfl) rfl ?_
                    refine GL_pass (nw_off rfl rfl rfl rfl rfl) rfl ?_
                    refine GL_pass (nw_undef rfl rfl rfl rfl) rfl ?_
                    refine GL_pass (nw_undef rfl rfl rfl rfl) rfl ?_
                    refine GL_pass (nw_undef rfl rfl rfl rfl) rfl ?_
                    refine GL_pass (nw_off rfl rfl rfl rfl rfl) rfl ?_
                    refine GL_rd (v := .bool _) (wn_on rfl rfl rfl rfl) rfl (rd_pickF rfl rfl rfl) ?_
                    refine GL_rd (v := .bool _) (wn_none rfl) rfl (rd_pickF rfl rfl rfl) ?_
                    refine GL_rd (v := .bool _) (wn_none rfl) rfl (rd_move rfl rfl) ?_
                    refine GL_rd (v := .int _ _) (wn_on rfl rfl rfl rfl) rfl (rd_move rfl rfl) ?_
                    refine GL_rd (wn_on rfl rfl rfl rfl) rfl (rd_bin rfl rfl rfl bo_eql) ?_
                    refine GL_rd (v := .bool _) (wn_on rfl rfl rfl rfl) rfl (rd_move rfl rfl) ?_
                    refine GL_split (t := 106) (b := _) rfl ?_ ?_
                    · intro hb20; (try simp only [decide_eq_true_eq, decide_eq_false_iff_not, Bool.not_eq_true', Bool.not_eq_false', Bool.not_eq_eq_eq_not, Bool.not_true, Bool.not_false, Int.not_lt, Int.not_le] at hb20)
                      refine GL_rd (wn_on rfl rfl rfl rfl) rfl (rd_field rfl rfl fa96_1 _ rfl) ?_
                      refine GL_rd (wn_on rfl rfl rfl rfl) rfl (rd_load rfl rfl Try.underlying3 rfl ((cell_of_cells (hp.get 0 rfl) _).trans rfl)) ?_
                      refine GL_rd (v := .int _ _) (wn_on rfl rfl rfl rfl) rfl (rd_move rfl rfl) ?_
                      refine GL_rd (wn_on rfl rfl rfl rfl) rfl (rd_bin rfl rfl rfl (bo_add64 (by omega))) ?_
                      refine GL_rd (wn_on rfl rfl rfl rfl) rfl (rd_bin rfl rfl rfl bo_neq) ?_
                      refine GL_rd (v := .bool _) (wn_on rfl rfl rfl rfl) rfl (rd_move rfl rfl) ?_
                      refine GL_split (t := 112) (b := _) rfl ?_ ?_
                      · intro hb21; (try simp only [decide_eq_true_eq, decide_eq_false_iff_not, Bool.not_eq_true', Bool.not_eq_false', Bool.not_eq_eq_eq_not, Bool.not_true, Bool.not_false, Int.not_lt, Int.not_le] at hb21)
                        exact absurd hdn hb21
                      · intro hb21; (try simp only [decide_eq_true_eq, decide_eq_false_iff_not, Bool.not_eq_true', Bool.not_eq_false', Bool.not_eq_eq_eq_not, Bool.not_true, Bool.not_false, Int.not_lt, Int.not_le] at hb21)
                        refine GL_rd (wn_on rfl rfl rfl rfl) rfl (rd_field rfl rfl fa96_0 _ rfl) ?_
                        refine GL_rd (wn_on rfl rfl rfl rfl) rfl (rd_load rfl rfl Try.underlying3 rfl ((cell_of_cells (hp.get 0 rfl) _).trans rfl)) ?_
                        refine GL_rd (v := .int _ _) (wn_on rfl rfl rfl rfl) rfl (rd_move rfl rfl) ?_
                        refine GL_rd (wn_on rfl rfl rfl rfl) rfl (rd_bin rfl rfl rfl bo_neq) ?_
                        refine GL_rd (v := .bool _) (wn_on rfl rfl rfl rfl) rfl (rd_pickF rfl rfl rfl) ?_
                        refine GL_rd (v := .bool _) (wn_on rfl rfl rfl rfl) rfl (rd_pickT rfl rfl rfl) ?_
                        refine GL_rd (v := .bool _) (wn_none rfl) rfl (rd_pickF rfl rfl rfl) ?_
                        refine GL_nil ?_
                        refine GW_cond rfl (fun hb22 => ?_) (fun hb22 => ?_)
                        · (try simp only [decide_eq_true_eq, decide_eq_false_iff_not, Bool.not_eq_true', Bool.not_eq_false', Bool.not_eq_eq_eq_not, Bool.not_true, Bool.not_false, Int.not_lt, Int.not_le] at hb22)
                          all_goals first | exact absurd trivial hb22 | exact absurd rfl hb22 | omega | exact absurd hok3 hb22
                        · (try simp only [decide_eq_true_eq, decide_eq_false_iff_not, Bool.not_eq_true', Bool.not_eq_false', Bool.not_eq_eq_eq_not, Bool.not_true, Bool.not_false, Int.not_lt, Int.not_le] at hb22)
                          refine GW_skip ?_
                          refine GW_seq ?_
                          refine GW_seq ?_
                          refine GW_region ?_
                          refine GL_rd (v := .int _ _) (wn_none rfl) rfl (rd_assign rfl rfl) ?_
                          refine GL_nil ?_
                          refine GW_block ?_
                          refine GW_loop ?_
                          refine Lp_ind (α := Nat × Int) (fun a f w' => match a with | (i, nw) => ∃ fz, f = (upd (upd (upd fz 3 (.slice A3 m3 c3)) 9 (.pointer (some ⟨g, 0, none⟩))) 16 (.int .i64 (i : Int))) ∧ Hp w0 [] w' [cells g 96 [.int .i64 nw, .int .i64 ser]] ∧ (i ≤ m3) ∧ (0 ≤ nw ∧ nw ≤ 1099511627776)) (fun a => match a with | (i, nw) => m3 - i) ?_ (0, now) _ _ ?_
                          · rintro ⟨i, nw⟩ f wz ⟨fz, rfl, hp, hi0, hnw⟩ ihL1
                            refine Lp_round ?_
                            refine GW_seq ?_
                            refine GW_seq ?_
                            refine GW_region ?_
                            refine GL_rd (v := .int _ _) (wn_none rfl) rfl (rd_move rfl rfl) ?_
                            refine GL_rd (v := .slice _ _ _) (wn_none rfl) rfl (rd_move rfl rfl) ?_
                            refine GL_rd (wn_none rfl) rfl (rd_len rfl rfl Try.underlying81) ?_
                            refine GL_rd (wn_none rfl) rfl (rd_bin rfl rfl rfl bo_lss) ?_
                            refine GL_nil ?_
                            refine GW_cond rfl (fun hb23 => ?_) (fun hb23 => ?_)
                            · (try simp only [decide_eq_true_eq, decide_eq_false_iff_not, Bool.not_eq_true', Bool.not_eq_false', Bool.not_eq_eq_eq_not, Bool.not_true, Bool.not_false, Int.not_lt, Int.not_le] at hb23)
                              obtain ⟨y, hy⟩ : ∃ y, l3[i]? = some y := ⟨_, List.getElem?_eq_getElem (by omega)⟩
                              obtain ⟨gA, bA, rfl⟩ := hs3.addr (by rw [List.length_map]; omega)
                              have hyb := hy3 y (List.mem_of_getElem? hy)
                              have hge2 := addN_ge (n := y) hnw.1 hnw.2
                              refine GW_skip ?_
                              refine GW_seq ?_
                              refine GW_block ?_
                              refine GW_seq ?_
                              refine GW_drawnK 12 (.one 0 true (.one 1 true (.one 2 true (.one 3 true (.one 4 true (.two 5 9 (.one 6 true (.one 7 true (.one 8 true (.one 9 false (.one 10 false (.one 11 true .nil)))))) (.one 5 false (.one 6 true (.one 7 true (.one 8 true (.one 10 false (.one 11 true .nil)))))))))))) mixed (by kernel_rfl) hp (fun _ h => h) fun w hp => ?_
                              have hpS8 := hp
                              refine GO_rd rfl (wn_none rfl) rfl hpS8 (fun w hp => (rd_loadC rfl rfl Try.underlying96 rfl ts96 (hp.get 0 rfl) (by first | rfl | simp [bys_length, *]))) ?_
                              refine GO_rd (v := .slice _ _ _) rfl (wn_none rfl) rfl hpS8 (fun w hp => (rd_move rfl rfl)) ?_
                              refine GO_rd (v := .int _ _) rfl (wn_none rfl) rfl hpS8 (fun w hp => (rd_move rfl rfl)) ?_
                              refine GO_rd rfl (wn_none rfl) rfl hpS8 (fun w hp => (rd_indexS (j := i) rfl rfl rfl Try.underlying81 ts3 rfl (by omega) _ rfl)) ?_
                              refine GO_rd rfl (wn_none rfl) rfl hpS8 (fun w hp => (rd_load rfl rfl Try.underlying3 rfl ((hs3.keep hp.mod).get (i * 1) _ (by rw [Nat.mul_one, List.getElem?_map, hy]; rfl)))) ?_
                              refine GO_two rfl rfl ?_ ?_
                              · skip
                                refine GC_of_GL ?_
                                refine GL_call (wn_none rfl) rfl rfl (tick_Add nw ser y _ hnw.1 hnw.2 hyb) rfl ?_
                                rintro _ w ⟨rfl, hk⟩
                                have hp := hp.comp hk
                                have hpS9 := hp
                                refine GL_nil ⟨fun _ => hpS9, ?_⟩
                                refine GO_rd (v := .tuple _) rfl (wn_none rfl) rfl hpS9 (fun w hp => (rd_move rfl rfl)) ?_
                                refine GO_rd (v := .agg ⟨_⟩) rfl (wn_none rfl) rfl hpS9 (fun w hp => (rd_extract rfl rfl rfl)) ?_
                                refine GO_rd (v := .int _ _) rfl (wn_none rfl) rfl hpS9 (fun w hp => (rd_extract rfl rfl rfl)) ?_
                                refine GO_of_GL rfl ?_
                                refine GL_alloc (wn_none rfl) rfl rfl tz96 rfl hp ?_
                                intro g6 w hp
                                have hpS10 := (hp.sub (.cons _ (.cons_cons _ .slnil)))
                                refine GL_nil ⟨fun _ => hpS10, ?_⟩
                                refine GO_of_GL rfl ?_
                                refine GL_store (i := 0) (wn_none rfl) rfl rfl rfl rfl ts96 rfl rfl (oneC rfl (oneC rfl one0)) hp rfl (by first | exact Nat.le_of_ble_eq_true rfl | simp [bys_length, *]) rfl ?_
                                intro w hp
                                have hpS11 := (hp.sub (.cons _ (.cons_cons _ .slnil)))
                                refine GL_nil ⟨fun _ => hpS11, ?_⟩
                                refine GO_rd (v := .int _ _) rfl (wn_none rfl) rfl hpS11 (fun w hp => (rd_assign rfl rfl)) ?_
                                refine GO_nil ?_
                                refine GW_seq ?_
                                refine GW_seq ?_
                                refine GW_region ?_
                                refine GL_rd (wn_none rfl) rfl (rd_field rfl rfl fa96_0 _ rfl) ?_
                                refine GL_rd (wn_none rfl) rfl (rd_load rfl rfl Try.underlying3 rfl ((cell_of_cells (hp.get 0 rfl) _).trans rfl)) ?_
                                refine GL_rd (wn_none rfl) rfl (rd_field rfl rfl fa96_0 _ rfl) ?_
                                refine GL_rd (wn_none rfl) rfl (rd_load rfl rfl Try.underlying3 rfl ((cell_of_cells (hp.get 1 rfl) _).trans rfl)) ?_
                                refine GL_rd (wn_none rfl) rfl (rd_bin rfl rfl rfl bo_lss) ?_
                                refine GL_rd (v := .bool _) (wn_none rfl) rfl (rd_move rfl rfl) ?_
                                refine GL_split (t := 140) (b := _) rfl ?_ ?_
                                · intro hb24; (try simp only [decide_eq_true_eq, decide_eq_false_iff_not, Bool.not_eq_true', Bool.not_eq_false', Bool.not_eq_eq_eq_not, Bool.not_true, Bool.not_false, Int.not_lt, Int.not_le] at hb24)
                                  omega
                                · intro hb24; (try simp only [decide_eq_true_eq, decide_eq_false_iff_not, Bool.not_eq_true', Bool.not_eq_false', Bool.not_eq_eq_eq_not, Bool.not_true, Bool.not_false, Int.not_lt, Int.not_le] at hb24)
                                  refine GL_rd (wn_on rfl rfl rfl rfl) rfl (rd_field rfl rfl fa96_0 _ rfl) ?_
                                  refine GL_rd (wn_on rfl rfl rfl rfl) rfl (rd_load rfl rfl Try.underlying3 rfl ((cell_of_cells (hp.get 0 rfl) _).trans rfl)) ?_
                                  refine GL_rd (wn_on rfl rfl rfl rfl) rfl (rd_bin rfl rfl rfl bo_gtr) ?_
                                  refine GL_rd (v := .bool _) (wn_none rfl) rfl (rd_pickF rfl rfl rfl) ?_
                                  refine GL_nil ?_
                                  refine GW_cond rfl (fun hb25 => ?_) (fun hb25 => ?_)
                                  · (try simp only [decide_eq_true_eq, decide_eq_false_iff_not, Bool.not_eq_true', Bool.not_eq_false', Bool.not_eq_eq_eq_not, Bool.not_true, Bool.not_false, Int.not_lt, Int.not_le] at hb25)
                                    omega
                                  · (try simp only [decide_eq_true_eq, decide_eq_false_iff_not, Bool.not_eq_true', Bool.not_eq_false', Bool.not_eq_eq_eq_not, Bool.not_true, Bool.not_false, Int.not_lt, Int.not_le] at hb25)
                                    refine GW_skip ?_
                                    refine GW_region ?_
                                    refine GL_rd (wn_none rfl) rfl (rd_loadC rfl rfl Try.underlying96 rfl ts96 (hp.get 0 rfl) (by first | rfl | simp [bys_length, *])) ?_
                                    refine GL_store (i := 1) (wn_none rfl) rfl rfl rfl rfl ts96 rfl rfl (oneC rfl (oneC rfl one0)) hp rfl (by first | exact Nat.le_of_ble_eq_true rfl | simp [bys_length, *]) rfl ?_
                                    intro w hp
                                    refine GL_nil ?_
                                    refine GW_region ?_
                                    refine GL_rd (v := .int _ _) (wn_none rfl) rfl (rd_move rfl rfl) ?_
                                    refine GL_rd (wn_none rfl) rfl (rd_bin rfl rfl rfl (bo_add64 (by omega))) ?_
                                    refine GL_rd (v := .int _ _) (wn_none rfl) rfl (rd_assign rfl rfl) ?_
                                    refine GL_nil ?_
                                    have hp := hp.drop 1
                                    exact ihL1 (i + 1, addN nw y) _ _ (by simp only []; omega) ⟨_, slots3 rfl rfl rfl, hp, by omega, by omega⟩
                              · skip
                                refine GC_of_GL ?_
                                refine GL_alloc (wn_none rfl) rfl rfl tz96 rfl hp ?_
                                intro g7 w hp
                                have hpS12 := (hp.sub (.cons _ (.cons_cons _ .slnil)))
                                refine GL_nil ⟨fun _ => hpS12, ?_⟩
                                refine GO_of_GL rfl ?_
                                refine GL_call (wn_none rfl) rfl rfl (tick_Add nw ser y _ hnw.1 hnw.2 hyb) rfl ?_
                                rintro _ w ⟨rfl, hk⟩
                                have hp := hp.comp hk
                                have hpS13 := (hp.sub (.cons _ (.cons_cons _ .slnil)))
                                refine GL_nil ⟨fun _ => hpS13, ?_⟩
                                refine GO_rd (v := .tuple _) rfl (wn_none rfl) rfl hpS13 (fun w hp => (rd_move rfl rfl)) ?_
                                refine GO_rd (v := .agg ⟨_⟩) rfl (wn_none rfl) rfl hpS13 (fun w hp => (rd_extract rfl rfl rfl)) ?_
                                refine GO_rd (v := .int _ _) rfl (wn_none rfl) rfl hpS13 (fun w hp => (rd_extract rfl rfl rfl)) ?_
                                refine GO_of_GL rfl ?_
                                refine GL_store (i := 0) (wn_none rfl) rfl rfl rfl rfl ts96 rfl rfl (oneC rfl (oneC rfl one0)) hp rfl (by first | exact Nat.le_of_ble_eq_true rfl | simp [bys_length, *]) rfl ?_
                                intro w hp
                                have hpS14 := (hp.sub (.cons _ (.cons_cons _ .slnil)))
                                refine GL_nil ⟨fun _ => hpS14, ?_⟩
                                refine GO_rd (v := .int _ _) rfl (wn_none rfl) rfl hpS14 (fun w hp => (rd_assign rfl rfl)) ?_
                                refine GO_nil ?_
                                refine GW_seq ?_
                                refine GW_seq ?_
                                refine GW_region ?_
                                refine GL_rd (wn_none rfl) rfl (rd_field rfl rfl fa96_0 _ rfl) ?_
                                refine GL_rd (wn_none rfl) rfl (rd_load rfl rfl Try.underlying3 rfl ((cell_of_cells (hp.get 0 rfl) _).trans rfl)) ?_
                                refine GL_rd (wn_none rfl) rfl (rd_field rfl rfl fa96_0 _ rfl) ?_
                                refine GL_rd (wn_none rfl) rfl (rd_load rfl rfl Try.underlying3 rfl ((cell_of_cells (hp.get 1 rfl) _).trans rfl)) ?_
                                refine GL_rd (wn_none rfl) rfl (rd_bin rfl rfl rfl bo_lss) ?_
                                refine GL_rd (v := .bool _) (wn_none rfl) rfl (rd_move rfl rfl) ?_
                                refine GL_split (t := 140) (b := _) rfl ?_ ?_
                                · intro hb26; (try simp only [decide_eq_true_eq, decide_eq_false_iff_not, Bool.not_eq_true', Bool.not_eq_false', Bool.not_eq_eq_eq_not, Bool.not_true, Bool.not_false, Int.not_lt, Int.not_le] at hb26)
                                  omega
                                · intro hb26; (try simp only [decide_eq_true_eq, decide_eq_false_iff_not, Bool.not_eq_true', Bool.not_eq_false', Bool.not_eq_eq_eq_not, Bool.not_true, Bool.not_false, Int.not_lt, Int.not_le] at hb26)
                                  refine GL_rd (wn_on rfl rfl rfl rfl) rfl (rd_field rfl rfl fa96_0 _ rfl) ?_
                                  refine GL_rd (wn_on rfl rfl rfl rfl) rfl (rd_load rfl rfl Try.underlying3 rfl ((cell_of_cells (hp.get 0 rfl) _).trans rfl)) ?_
                                  refine GL_rd (wn_on rfl rfl rfl rfl) rfl (rd_bin rfl rfl rfl bo_gtr) ?_
                                  refine GL_rd (v := .bool _) (wn_none rfl) rfl (rd_pickF rfl rfl rfl) ?_
                                  refine GL_nil ?_
                                  refine GW_cond rfl (fun hb27 => ?_) (fun hb27 => ?_)
                                  · (try simp only [decide_eq_true_eq, decide_eq_false_iff_not, Bool.not_eq_true', Bool.not_eq_false', Bool.not_eq_eq_eq_not, Bool.not_true, Bool.not_false, Int.not_lt, Int.not_le] at hb27)
                                    omega
                                  · (try simp only [decide_eq_true_eq, decide_eq_false_iff_not, Bool.not_eq_true', Bool.not_eq_false', Bool.not_eq_eq_eq_not, Bool.not_true, Bool.not_false, Int.not_lt, Int.not_le] at hb27)
                                    refine GW_skip ?_
                                    refine GW_region ?_
                                    refine GL_rd (wn_none rfl) rfl (rd_loadC rfl rfl Try.underlying96 rfl ts96 (hp.get 0 rfl) (by first | rfl | simp [bys_length, *])) ?_
                                    refine GL_store (i := 1) (wn_none rfl) rfl rfl rfl rfl ts96 rfl rfl (oneC rfl (oneC rfl one0)) hp rfl (by first | exact Nat.le_of_ble_eq_true rfl | simp [bys_length, *]) rfl ?_
                                    intro w hp
                                    refine GL_nil ?_
                                    refine GW_region ?_
                                    refine GL_rd (v := .int _ _) (wn_none rfl) rfl (rd_move rfl rfl) ?_
                                    refine GL_rd (wn_none rfl) rfl (rd_bin rfl rfl rfl (bo_add64 (by omega))) ?_
                                    refine GL_rd (v := .int _ _) (wn_none rfl) rfl (rd_assign rfl rfl) ?_
                                    refine GL_nil ?_
                                    have hp := hp.drop 1
                                    exact ihL1 (i + 1, addN nw y) _ _ (by simp only []; omega) ⟨_, slots3 rfl rfl rfl, hp, by omega, by omega⟩
                            · (try simp only [decide_eq_true_eq, decide_eq_false_iff_not, Bool.not_eq_true', Bool.not_eq_false', Bool.not_eq_eq_eq_not, Bool.not_true, Bool.not_false, Int.not_lt, Int.not_le] at hb23)
                              refine GW_exit ?_
                              refine GW_seq ?_
                              refine GW_region ?_
                              refine GL_call (wn_none rfl) rfl rfl (tick_works _) rfl ?_
                              rintro _ w ⟨rfl, hk⟩
                              have hp := hp.comp hk
                              refine GL_rd (v := .bool _) (wn_none rfl) rfl (rd_assign rfl rfl) ?_
                              refine GL_nil ?_
                              refine GW_ret ?_
                              exact ⟨_, res1 Try.results11 (rv_tmp (v := .bool _) rfl rfl), rfl, hp.mods⟩
                          · have hp := hp.drop 2
                            refine ⟨_, slots3 rfl rfl rfl, hp, Nat.zero_le _, ⟨hok2.1, hok2.2.1⟩⟩
                    · intro hb20; (try simp only [decide_eq_true_eq, decide_eq_false_iff_not, Bool.not_eq_true', Bool.not_eq_false', Bool.not_eq_eq_eq_not, Bool.not_true, Bool.not_false, Int.not_lt, Int.not_le] at hb20)
                      exact absurd hf0 hb20

theorem law_TickBack (now ser : Int) (x : List UInt8) (w0 : World) (hx : x.length = 256) : Does Try.prog 12 #[.int .i64 now, .int .i64 ser, .agg ⟨bys x⟩] w0 fun v w' => v = .bool true ∧ Hp w0 [] w' [] := by
  refine does_of (l := [.int .i64 now, .int .i64 ser, .agg ⟨bys x⟩]) Try.func12 (by kernel_rfl) rfl Try.ntmps12 rfl rfl ?_
  have hp := Hp.refl w0 []
  refine GW_seq ?_
  refine GW_region ?_
  refine GL_box (wn_none rfl) rfl rfl rfl rfl hp ?_
  intro g w hp
  refine GL_rd (v := .bool _) (wn_none rfl) rfl (rd_assign rfl rfl) ?_
  refine GL_nil ?_
  refine GW_seq ?_
  refine GW_region ?_
  refine GL_rd (v := .int _ _) (wn_none rfl) rfl (rd_move rfl rfl) ?_
  refine GL_rd (v := .int _ _) (wn_none rfl) rfl (rd_move rfl rfl) ?_
  refine GL_rd (wn_none rfl) rfl (rd_buildS (L := [.int .i64 now, .int .i64 ser]) rfl tz96 pl96 (by kernel_rfl)) ?_
  refine GL_call (wn_none rfl) rfl rfl (tick_Put now ser _) rfl ?_
  rintro _ w ⟨rfl, hk⟩
  have hp := hp.comp hk
  refine GL_rd (v := .tuple _) (wn_none rfl) rfl (rd_move rfl rfl) ?_
  refine GL_rd (v := .agg ⟨_⟩) (wn_none rfl) rfl (rd_extract rfl rfl rfl) ?_
  refine GL_rd (v := .int _ _) (wn_none rfl) rfl (rd_extract rfl rfl rfl) ?_
  refine GL_alloc (wn_none rfl) rfl rfl tz35 rfl hp ?_
  intro g2 w hp
  refine GL_store (i := 0) (wn_none rfl) rfl rfl rfl rfl ts35 rfl (by rw [bys_length, tickS_length]) (bys_one _) hp rfl (by rw [List.length_replicate]; omega) (splice_all _ _ (by rw [bys_length, tickS_length, List.length_replicate])) ?_
  intro w hp
  refine GL_rd (v := .int _ _) (wn_none rfl) rfl (rd_assign rfl rfl) ?_
  refine GL_nil ?_
  refine GW_seq ?_
  refine GW_region ?_
  refine GL_rd (v := .int _ _) (wn_none rfl) rfl (rd_move rfl rfl) ?_
  refine GL_rd (v := .int _ _) (wn_none rfl) rfl (rd_move rfl rfl) ?_
  refine GL_call (wn_none rfl) rfl rfl (ref_tPut now ser _) rfl ?_
  rintro _ w ⟨rfl, hk⟩
  have hp := hp.comp hk
  refine GL_rd (v := .tuple _) (wn_none rfl) rfl (rd_move rfl rfl) ?_
  refine GL_rd (v := .agg ⟨_⟩) (wn_none rfl) rfl (rd_extract rfl rfl rfl) ?_
  refine GL_rd (v := .int _ _) (wn_none rfl) rfl (rd_extract rfl rfl rfl) ?_
  refine GL_alloc (wn_none rfl) rfl rfl tz35 rfl hp ?_
  intro g3 w hp
  refine GL_store (i := 0) (wn_none rfl) rfl rfl rfl rfl ts35 rfl (by rw [bys_length, tickS_length]) (bys_one _) hp rfl (by rw [List.length_replicate]; omega) (splice_all _ _ (by rw [bys_length, tickS_length, List.length_replicate])) ?_
  intro w hp
  refine GL_rd (v := .int _ _) (wn_none rfl) rfl (rd_assign rfl rfl) ?_
  refine GL_nil ?_
  refine GW_seq ?_
  refine GW_seq ?_
  refine GW_region ?_
  refine GL_rd (wn_none rfl) rfl (rd_loadC rfl rfl Try.underlying35 rfl ts35 (hp.get 1 rfl) (by rw [bys_length, tickS_length])) ?_
  refine GL_rd (wn_none rfl) rfl (rd_loadC rfl rfl Try.underlying35 rfl ts35 (hp.get 0 rfl) (by rw [bys_length, tickS_length])) ?_
  refine GL_rd (wn_none rfl) rfl (rd_bin rfl rfl rfl (bo_arrB Try.underlying35 Try.underlying5 ts5 (by kernel_rfl) (tickS_length _ _) (tickS_length _ _)).2) ?_
  refine GL_rd (v := .bool _) (wn_none rfl) rfl (rd_move rfl rfl) ?_
  refine GL_split (t := 34) (b := _) rfl ?_ ?_
  · intro hb; (try simp only [decide_eq_true_eq, decide_eq_false_iff_not, Bool.not_eq_true', Bool.not_eq_false', Bool.not_eq_eq_eq_not, Bool.not_true, Bool.not_false, Int.not_lt, Int.not_le] at hb)
    all_goals first | exact absurd trivial hb | exact absurd rfl hb
  · intro hb; (try simp only [decide_eq_true_eq, decide_eq_false_iff_not, Bool.not_eq_true', Bool.not_eq_false', Bool.not_eq_eq_eq_not, Bool.not_true, Bool.not_false, Int.not_lt, Int.not_le] at hb)
    refine GL_rd (v := .int _ _) (wn_on rfl rfl rfl rfl) rfl (rd_move rfl rfl) ?_
    refine GL_rd (v := .int _ _) (wn_on rfl rfl rfl rfl) rfl (rd_move rfl rfl) ?_
    refine GL_rd (wn_on rfl rfl rfl rfl) rfl (rd_bin rfl rfl rfl bo_neq) ?_
    refine GL_rd (v := .bool _) (wn_none rfl) rfl (rd_pickF rfl rfl rfl) ?_
    refine GL_nil ?_
    refine GW_cond rfl (fun hb2 => ?_) (fun hb2 => ?_)
    · (try simp only [decide_eq_true_eq, decide_eq_false_iff_not, Bool.not_eq_true', Bool.not_eq_false', Bool.not_eq_eq_eq_not, Bool.not_true, Bool.not_false, Int.not_lt, Int.not_le] at hb2)
      all_goals first | exact absurd trivial hb2 | exact absurd rfl hb2
    · (try simp only [decide_eq_true_eq, decide_eq_false_iff_not, Bool.not_eq_true', Bool.not_eq_false', Bool.not_eq_eq_eq_not, Bool.not_true, Bool.not_false, Int.not_lt, Int.not_le] at hb2)
      refine GW_skip ?_
      refine GW_seq ?_
      refine GW_seq ?_
      refine GW_region ?_
      refine GL_rd (v := .int _ _) (wn_none rfl) rfl (rd_move rfl rfl) ?_
      refine GL_rd (wn_none rfl) rfl (rd_bin rfl rfl rfl bo_eql) ?_
      refine GL_nil ?_
      refine GW_cond rfl (fun hb3 => ?_) (fun hb3 => ?_)
      · (try simp only [decide_eq_true_eq, decide_eq_false_iff_not, Bool.not_eq_true', Bool.not_eq_false', Bool.not_eq_eq_eq_not, Bool.not_true, Bool.not_false, Int.not_lt, Int.not_le] at hb3)
        have hok := tickC_zero.1 hb3
        simp only [tickOk, decide_eq_true_eq] at hok
        obtain ⟨a0, rfl⟩ : ∃ k : Nat, now = (k : Int) := ⟨now.toNat, by omega⟩
        obtain ⟨b0, rfl⟩ : ∃ k : Nat, ser = (k : Int) := ⟨ser.toNat, by omega⟩
        refine GW_seq ?_
        refine GW_region ?_
        refine GL_rd (wn_none rfl) rfl (rd_loadC rfl rfl Try.underlying35 rfl ts35 (hp.get 1 rfl) (by rw [bys_length, tickS_length])) ?_
        refine GL_call (wn_none rfl) rfl rfl (tick_Get (tickS (a0 : Int) (b0 : Int)) _ (tickS_length _ _)) rfl ?_
        rintro _ w ⟨rfl, hk⟩
        have hp := hp.comp hk
        rw [tick_back (by omega) (by omega)]
        refine GL_rd (v := .tuple _) (wn_none rfl) rfl (rd_move rfl rfl) ?_
        refine GL_rd (v := .agg ⟨_⟩) (wn_none rfl) rfl (rd_extract rfl rfl rfl) ?_
        refine GL_rd (v := .int _ _) (wn_none rfl) rfl (rd_extract rfl rfl rfl) ?_
        refine GL_alloc (wn_none rfl) rfl rfl tz96 rfl hp ?_
        intro g4 w hp
        refine GL_store (i := 0) (wn_none rfl) rfl rfl rfl rfl ts96 rfl rfl (oneC rfl (oneC rfl one0)) hp rfl (by first | exact Nat.le_of_ble_eq_true rfl | simp [bys_length, *]) rfl ?_
        intro w hp
        refine GL_rd (v := .int _ _) (wn_none rfl) rfl (rd_assign rfl rfl) ?_
        refine GL_nil ?_
        refine GW_seq ?_
        refine GW_region ?_
        refine GL_rd (v := .int _ _) (wn_none rfl) rfl (rd_move rfl rfl) ?_
        refine GL_rd (wn_none rfl) rfl (rd_bin rfl rfl rfl bo_neq) ?_
        refine GL_rd (v := .bool _) (wn_none rfl) rfl (rd_move rfl rfl) ?_
        refine GL_split (t := 48) (b := _) rfl ?_ ?_
        · intro hb4; (try simp only [decide_eq_true_eq, decide_eq_false_iff_not, Bool.not_eq_true', Bool.not_eq_false', Bool.not_eq_eq_eq_not, Bool.not_true, Bool.not_false, Int.not_lt, Int.not_le] at hb4)
          all_goals first | exact absurd trivial hb4 | exact absurd rfl hb4
        · intro hb4; (try simp only [decide_eq_true_eq, decide_eq_false_iff_not, Bool.not_eq_true', Bool.not_eq_false', Bool.not_eq_eq_eq_not, Bool.not_true, Bool.not_false, Int.not_lt, Int.not_le] at hb4)
          refine GL_rd (wn_on rfl rfl rfl rfl) rfl (rd_field rfl rfl fa96_0 _ rfl) ?_
          refine GL_rd (wn_on rfl rfl rfl rfl) rfl (rd_load rfl rfl Try.underlying3 rfl ((cell_of_cells (hp.get 0 rfl) _).trans rfl)) ?_
          refine GL_rd (v := .int _ _) (wn_on rfl rfl rfl rfl) rfl (rd_move rfl rfl) ?_
          refine GL_rd (wn_on rfl rfl rfl rfl) rfl (rd_bin rfl rfl rfl bo_neq) ?_
          refine GL_rd (v := .bool _) (wn_none rfl) rfl (rd_pickF rfl rfl rfl) ?_
          refine GL_rd (v := .bool _) (wn_none rfl) rfl (rd_move rfl rfl) ?_
          refine GL_split (t := 54) (b := _) rfl ?_ ?_
          · intro hb5; (try simp only [decide_eq_true_eq, decide_eq_false_iff_not, Bool.not_eq_true', Bool.not_eq_false', Bool.not_eq_eq_eq_not, Bool.not_true, Bool.not_false, Int.not_lt, Int.not_le] at hb5)
            all_goals first | exact absurd trivial hb5 | exact absurd rfl hb5
          · intro hb5; (try simp only [decide_eq_true_eq, decide_eq_false_iff_not, Bool.not_eq_true', Bool.not_eq_false', Bool.not_eq_eq_eq_not, Bool.not_true, Bool.not_false, Int.not_lt, Int.not_le] at hb5)
            refine GL_rd (wn_on rfl rfl rfl rfl) rfl (rd_field rfl rfl fa96_1 _ rfl) ?_
            refine GL_rd (wn_on rfl rfl rfl rfl) rfl (rd_load rfl rfl Try.underlying3 rfl ((cell_of_cells (hp.get 0 rfl) _).trans rfl)) ?_
            refine GL_rd (v := .int _ _) (wn_on rfl rfl rfl rfl) rfl (rd_move rfl rfl) ?_
            refine GL_rd (wn_on rfl rfl rfl rfl) rfl (rd_bin rfl rfl rfl bo_neq) ?_
            refine GL_rd (v := .bool _) (wn_none rfl) rfl (rd_pickF rfl rfl rfl) ?_
            refine GL_nil ?_
            refine GW_cond rfl (fun hb6 => ?_) (fun hb6 => ?_)
            · (try simp only [decide_eq_true_eq, decide_eq_false_iff_not, Bool.not_eq_true', Bool.not_eq_false', Bool.not_eq_eq_eq_not, Bool.not_true, Bool.not_false, Int.not_lt, Int.not_le] at hb6)
              all_goals first | exact absurd trivial hb6 | exact absurd rfl hb6
            · (try simp only [decide_eq_true_eq, decide_eq_false_iff_not, Bool.not_eq_true', Bool.not_eq_false', Bool.not_eq_eq_eq_not, Bool.not_true, Bool.not_false, Int.not_lt, Int.not_le] at hb6)
              refine GW_skip ?_
              refine GW_seq ?_
              cases hG : tickG x with
              | none =>
                refine GW_region ?_
                refine GL_rd (wn_none rfl) rfl (rd_loadC rfl rfl Try.underlying35 rfl ts35 (hp.get 3 rfl) (by rw [bys_length, hx])) ?_
                refine GL_call (wn_none rfl) rfl rfl (tick_Get x _ hx) rfl ?_
                rintro _ w ⟨rfl, hk⟩
                have hp := hp.comp hk
                rw [hG]
                refine GL_rd (v := .tuple _) (wn_none rfl) rfl (rd_move rfl rfl) ?_
                refine GL_rd (v := .agg ⟨_⟩) (wn_none rfl) rfl (rd_extract rfl rfl rfl) ?_
                refine GL_rd (v := .int _ _) (wn_none rfl) rfl (rd_extract rfl rfl rfl) ?_
                refine GL_alloc (wn_none rfl) rfl rfl tz96 rfl hp ?_
                intro g5 w hp
                refine GL_store (i := 0) (wn_none rfl) rfl rfl rfl rfl ts96 rfl rfl (oneC rfl (oneC rfl one0)) hp rfl (by first | exact Nat.le_of_ble_eq_true rfl | simp [bys_length, *]) rfl ?_
                intro w hp
                refine GL_rd (v := .int _ _) (wn_none rfl) rfl (rd_assign rfl rfl) ?_
                refine GL_nil ?_
                refine GW_seq ?_
                refine GW_region ?_
                refine GL_rd (wn_none rfl) rfl (rd_loadC rfl rfl Try.underlying35 rfl ts35 (hp.get 4 rfl) (by rw [bys_length, hx])) ?_
                refine GL_call (wn_none rfl) rfl rfl (ref_tGet x _ hx) rfl ?_
                rintro _ w ⟨rfl, hk⟩
                have hp := hp.comp hk
                rw [hG]
                refine GL_rd (v := .tuple _) (wn_none rfl) rfl (rd_move rfl rfl) ?_
                refine GL_rd (v := .int _ _) (wn_none rfl) rfl (rd_extract rfl rfl rfl) ?_
                refine GL_rd (v := .int _ _) (wn_none rfl) rfl (rd_extract rfl rfl rfl) ?_
                refine GL_rd (v := .bool _) (wn_none rfl) rfl (rd_extract rfl rfl rfl) ?_
                refine GL_rd (v := .int _ _) (wn_none rfl) rfl (rd_assign rfl rfl) ?_
                refine GL_rd (v := .int _ _) (wn_none rfl) rfl (rd_assign rfl rfl) ?_
                refine GL_rd (v := .bool _) (wn_none rfl) rfl (rd_assign rfl rfl) ?_
                refine GL_nil ?_
                refine GW_seq ?_
                refine GW_region ?_
                refine GL_rd (v := .int _ _) (wn_none rfl) rfl (rd_move rfl rfl) ?_
                refine GL_rd (wn_none rfl) rfl (rd_bin rfl rfl rfl bo_eql) ?_
                refine GL_rd (v := .bool _) (wn_none rfl) rfl (rd_move rfl rfl) ?_
                refine GL_rd (wn_none rfl) rfl (rd_bin rfl rfl rfl (bo_beql Try.underlying4)) ?_
                refine GL_rd (v := .bool _) (wn_none rfl) rfl (rd_move rfl rfl) ?_
                refine GL_split (t := 75) (b := _) rfl ?_ ?_
                · intro hb7; (try simp only [decide_eq_true_eq, decide_eq_false_iff_not, Bool.not_eq_true', Bool.not_eq_false', Bool.not_eq_eq_eq_not, Bool.not_true, Bool.not_false, Int.not_lt, Int.not_le] at hb7)
                  refine GL_rd (v := .bool _) (wn_on rfl rfl rfl rfl) rfl (rd_move rfl rfl) ?_
                  refine GL_rd (v := .bool _) (wn_on rfl rfl rfl rfl) rfl (rd_move rfl rfl) ?_
                  refine GL_split (t := 77) (b := _) rfl ?_ ?_
                  · intro hb8; (try simp only [decide_eq_true_eq, decide_eq_false_iff_not, Bool.not_eq_true', Bool.not_eq_false', Bool.not_eq_eq_eq_not, Bool.not_true, Bool.not_false, Int.not_lt, Int.not_le] at hb8)
                    all_goals first | exact absurd hb8 (by decide) | exact absurd hb8 (by simp)
                  · intro hb8; (try simp only [decide_eq_true_eq, decide_eq_false_iff_not, Bool.not_eq_true', Bool.not_eq_false', Bool.not_eq_eq_eq_not, Bool.not_true, Bool.not_false, Int.not_lt, Int.not_le] at hb8)
                    refine GL_rd (v := .int _ _) (wn_on rfl rfl rfl rfl) rfl (rd_move rfl rfl) ?_
                    refine GL_rd (wn_on rfl rfl rfl rfl) rfl (rd_bin rfl rfl rfl bo_eql) ?_
                    refine GL_rd (v := .bool _) (wn_on rfl rfl rfl rfl) rfl (rd_pickF rfl rfl rfl) ?_
                    refine GL_rd (v := .bool _) (wn_none rfl) rfl (rd_pickT rfl rfl rfl) ?_
                    refine GL_rd (v := .bool _) (wn_none rfl) rfl (rd_move rfl rfl) ?_
                    refine GL_split (t := 82) (b := _) rfl ?_ ?_
                    · intro hb9; (try simp only [decide_eq_true_eq, decide_eq_false_iff_not, Bool.not_eq_true', Bool.not_eq_false', Bool.not_eq_eq_eq_not, Bool.not_true, Bool.not_false, Int.not_lt, Int.not_le] at hb9)
                      refine GL_rd (wn_on rfl rfl rfl rfl) rfl (rd_field rfl rfl fa96_0 _ rfl) ?_
                      refine GL_rd (wn_on rfl rfl rfl rfl) rfl (rd_load rfl rfl Try.underlying3 rfl ((cell_of_cells (hp.get 0 rfl) _).trans rfl)) ?_
                      refine GL_rd (v := .int _ _) (wn_on rfl rfl rfl rfl) rfl (rd_move rfl rfl) ?_
                      refine GL_rd (wn_on rfl rfl rfl rfl) rfl (rd_bin rfl rfl rfl bo_eql) ?_
                      refine GL_rd (v := .bool _) (wn_none rfl) rfl (rd_pickT rfl rfl rfl) ?_
                      refine GL_rd (v := .bool _) (wn_none rfl) rfl (rd_move rfl rfl) ?_
                      refine GL_split (t := 88) (b := _) rfl ?_ ?_
                      · intro hb10; (try simp only [decide_eq_true_eq, decide_eq_false_iff_not, Bool.not_eq_true', Bool.not_eq_false', Bool.not_eq_eq_eq_not, Bool.not_true, Bool.not_false, Int.not_lt, Int.not_le] at hb10)
                        refine GL_rd (wn_on rfl rfl rfl rfl) rfl (rd_field rfl rfl fa96_1 _ rfl) ?_
                        refine GL_rd (wn_on rfl rfl rfl rfl) rfl (rd_load rfl rfl Try.underlying3 rfl ((cell_of_cells (hp.get 0 rfl) _).trans rfl)) ?_
                        refine GL_rd (v := .int _ _) (wn_on rfl rfl rfl rfl) rfl (rd_move rfl rfl) ?_
                        refine GL_rd (wn_on rfl rfl rfl rfl) rfl (rd_bin rfl rfl rfl bo_eql) ?_
                        refine GL_rd (v := .bool _) (wn_none rfl) rfl (rd_pickT rfl rfl rfl) ?_
                        refine GL_rd (v := .bool _) (wn_none rfl) rfl (rd_move rfl rfl) ?_
                        refine GL_split (t := 94) (b := _) rfl ?_ ?_
                        · intro hb11; (try simp only [decide_eq_true_eq, decide_eq_false_iff_not, Bool.not_eq_true', Bool.not_eq_false', Bool.not_eq_eq_eq_not, Bool.not_true, Bool.not_false, Int.not_lt, Int.not_le] at hb11)
                          refine GL_call (wn_on rfl rfl rfl rfl) rfl rfl (tick_works _) rfl ?_
                          rintro _ w ⟨rfl, hk⟩
                          have hp := hp.comp hk
                          refine GL_rd (v := .bool _) (wn_none rfl) rfl (rd_pickT rfl rfl rfl) ?_
                          refine GL_rd (v := .bool _) (wn_none rfl) rfl (rd_assign rfl rfl) ?_
                          refine GL_nil ?_
                          refine GW_ret ?_
                          exact ⟨_, res1 Try.results12 (rv_tmp (v := .bool _) rfl rfl), rfl, hp.mods⟩
                        · intro hb11; (try simp only [decide_eq_true_eq, decide_eq_false_iff_not, Bool.not_eq_true', Bool.not_eq_false', Bool.not_eq_eq_eq_not, Bool.not_true, Bool.not_false, Int.not_lt, Int.not_le] at hb11)
                          all_goals first | exact absurd rfl hb11 | exact absurd hb11 (by decide) | exact absurd hb11 (by simp [tickE])
                      · intro hb10; (try simp only [decide_eq_true_eq, decide_eq_false_iff_not, Bool.not_eq_true', Bool.not_eq_false', Bool.not_eq_eq_eq_not, Bool.not_true, Bool.not_false, Int.not_lt, Int.not_le] at hb10)
                        all_goals first | exact absurd rfl hb10 | exact absurd hb10 (by decide) | exact absurd hb10 (by simp [tickE])
                    · intro hb9; (try simp only [decide_eq_true_eq, decide_eq_false_iff_not, Bool.not_eq_true', Bool.not_eq_false', Bool.not_eq_eq_eq_not, Bool.not_true, Bool.not_false, Int.not_lt, Int.not_le] at hb9)
                      all_goals first | exact absurd rfl hb9 | exact absurd hb9 (by decide) | exact absurd hb9 (by simp [tickE])
                · intro hb7; (try simp only [decide_eq_true_eq, decide_eq_false_iff_not, Bool.not_eq_true', Bool.not_eq_false', Bool.not_eq_eq_eq_not, Bool.not_true, Bool.not_false, Int.not_lt, Int.not_le] at hb7)
                  all_goals first | exact absurd rfl hb7 | exact absurd hb7 (by decide) | exact absurd hb7 (by simp [tickE])
              | some ab =>
                obtain ⟨a1, b1⟩ := ab
                refine GW_region ?_
                refine GL_rd (wn_none rfl) rfl (rd_loadC rfl rfl Try.underlying35 rfl ts35 (hp.get 3 rfl) (by rw [bys_length, hx])) ?_
                refine GL_call (wn_none rfl) rfl rfl (tick_Get x _ hx) rfl ?_
                rintro _ w ⟨rfl, hk⟩
                have hp := hp.comp hk
                rw [hG]
                refine GL_rd (v := .tuple _) (wn_none rfl) rfl (rd_move rfl rfl) ?_
                refine GL_rd (v := .agg ⟨_⟩) (wn_none rfl) rfl (rd_extract rfl rfl rfl) ?_
                refine GL_rd (v := .int _ _) (wn_none rfl) rfl (rd_extract rfl rfl rfl) ?_
                refine GL_alloc (wn_none rfl) rfl rfl tz96 rfl hp ?_
                intro g6 w hp
                refine GL_store (i := 0) (wn_none rfl) rfl rfl rfl rfl ts96 rfl rfl (oneC rfl (oneC rfl one0)) hp rfl (by first | exact Nat.le_of_ble_eq_true rfl | simp [bys_length, *]) rfl ?_
                intro w hp
                refine GL_rd (v := .int _ _) (wn_none rfl) rfl (rd_assign rfl rfl) ?_
                refine GL_nil ?_
                refine GW_seq ?_
                refine GW_region ?_
                refine GL_rd (wn_none rfl) rfl (rd_loadC rfl rfl Try.underlying35 rfl ts35 (hp.get 4 rfl) (by rw [bys_length, hx])) ?_
                refine GL_call (wn_none rfl) rfl rfl (ref_tGet x _ hx) rfl ?_
                rintro _ w ⟨rfl, hk⟩
                have hp := hp.comp hk
                rw [hG]
                refine GL_rd (v := .tuple _) (wn_none rfl) rfl (rd_move rfl rfl) ?_
                refine GL_rd (v := .int _ _) (wn_none rfl) rfl (rd_extract rfl rfl rfl) ?_
                refine GL_rd (v := .int _ _) (wn_none rfl) rfl (rd_extract rfl rfl rfl) ?_
                refine GL_rd (v := .bool _) (wn_none rfl) rfl (rd_extract rfl rfl rfl) ?_
                refine GL_rd (v := .int _ _) (wn_none rfl) rfl (rd_assign rfl rfl) ?_
                refine GL_rd (v := .int _ _) (wn_none rfl) rfl (rd_assign rfl rfl) ?_
                refine GL_rd (v := .bool _) (wn_none rfl) rfl (rd_assign rfl rfl) ?_
                refine GL_nil ?_
                refine GW_seq ?_
                refine GW_region ?_
                refine GL_rd (v := .int _ _) (wn_none rfl) rfl (rd_move rfl rfl) ?_
                refine GL_rd (wn_none rfl) rfl (rd_bin rfl rfl rfl bo_eql) ?_
                refine GL_rd (v := .bool _) (wn_none rfl) rfl (rd_move rfl rfl) ?_
                refine GL_rd (wn_none rfl) rfl (rd_bin rfl rfl rfl (bo_beql Try.underlying4)) ?_
                refine GL_rd (v := .bool _) (wn_none rfl) rfl (rd_move rfl rfl) ?_
                refine GL_split (t := 75) (b := _) rfl ?_ ?_
                · intro hb12; (try simp only [decide_eq_true_eq, decide_eq_false_iff_not, Bool.not_eq_true', Bool.not_eq_false', Bool.not_eq_eq_eq_not, Bool.not_true, Bool.not_false, Int.not_lt, Int.not_le] at hb12)
                  refine GL_rd (v := .bool _) (wn_on rfl rfl rfl rfl) rfl (rd_move rfl rfl) ?_
                  refine GL_rd (v := .bool _) (wn_on rfl rfl rfl rfl) rfl (rd_move rfl rfl) ?_
                  refine GL_split (t := 77) (b := _) rfl ?_ ?_
                  · intro hb13; (try simp only [decide_eq_true_eq, decide_eq_false_iff_not, Bool.not_eq_true', Bool.not_eq_false', Bool.not_eq_eq_eq_not, Bool.not_true, Bool.not_false, Int.not_lt, Int.not_le] at hb13)
                    refine GL_pass (nw_off rfl rfl rfl rfl rfl) rfl ?_
                    refine GL_pass (nw_off rfl rfl rfl rfl rfl) rfl ?_
                    refine GL_rd (v := .bool _) (wn_on rfl rfl rfl rfl) rfl (rd_pickT rfl rfl rfl) ?_
                    refine GL_rd (v := .bool _) (wn_none rfl) rfl (rd_pickT rfl rfl rfl) ?_
                    refine GL_rd (v := .bool _) (wn_none rfl) rfl (rd_move rfl rfl) ?_
                    refine GL_rd (wn_on rfl rfl rfl rfl) rfl (rd_field rfl rfl fa96_0 _ rfl) ?_
                    refine GL_rd (wn_on rfl rfl rfl rfl) rfl (rd_load rfl rfl Try.underlying3 rfl ((cell_of_cells (hp.get 0 rfl) _).trans rfl)) ?_
                    refine GL_rd (v := .int _ _) (wn_on rfl rfl rfl rfl) rfl (rd_move rfl rfl) ?_
                    refine GL_rd (wn_on rfl rfl rfl rfl) rfl (rd_bin rfl rfl rfl bo_eql) ?_
                    refine GL_rd (v := .bool _) (wn_none rfl) rfl (rd_pickT rfl rfl rfl) ?_
                    refine GL_rd (v := .bool _) (wn_none rfl) rfl (rd_move rfl rfl) ?_
                    refine GL_split (t := 88) (b := _) rfl ?_ ?_
                    · intro hb14; (try simp only [decide_eq_true_eq, decide_eq_false_iff_not, Bool.not_eq_true', Bool.not_eq_false', Bool.not_eq_eq_eq_not, Bool.not_true, Bool.not_false, Int.not_lt, Int.not_le] at hb14)
                      refine GL_rd (wn_on rfl rfl rfl rfl) rfl (rd_field rfl rfl fa96_1 _ rfl) ?_
                      refine GL_rd (wn_on rfl rfl rfl rfl) rfl (rd_load rfl rfl Try.underlying3 rfl ((cell_of_cells (hp.get 0 rfl) _).trans rfl)) ?_
                      refine GL_rd (v := .int _ _) (wn_on rfl rfl rfl rfl) rfl (rd_move rfl rfl) ?_
                      refine GL_rd (wn_on rfl rfl rfl rfl) rfl (rd_bin rfl rfl rfl bo_eql) ?_
                      refine GL_rd (v := .bool _) (wn_none rfl) rfl (rd_pickT rfl rfl rfl) ?_
                      refine GL_rd (v := .bool _) (wn_none rfl) rfl (rd_move rfl rfl) ?_
                      refine GL_split (t := 94) (b := _) rfl ?_ ?_
                      · intro hb15; (try simp only [decide_eq_true_eq, decide_eq_false_iff_not, Bool.not_eq_true', Bool.not_eq_false', Bool.not_eq_eq_eq_not, Bool.not_true, Bool.not_false, Int.not_lt, Int.not_le] at hb15)
                        refine GL_call (wn_on rfl rfl rfl rfl) rfl rfl (tick_works _) rfl ?_
                        rintro _ w ⟨rfl, hk⟩
                        have hp := hp.comp hk
                        refine GL_rd (v := .bool _) (wn_none rfl) rfl (rd_pickT rfl rfl rfl) ?_
                        refine GL_rd (v := .bool _) (wn_none rfl) rfl (rd_assign rfl rfl) ?_
                        refine GL_nil ?_
                        refine GW_ret ?_
                        exact ⟨_, res1 Try.results12 (rv_tmp (v := .bool _) rfl rfl), rfl, hp.mods⟩
                      · intro hb15; (try simp only [decide_eq_true_eq, decide_eq_false_iff_not, Bool.not_eq_true', Bool.not_eq_false', Bool.not_eq_eq_eq_not, Bool.not_true, Bool.not_false, Int.not_lt, Int.not_le] at hb15)
                        all_goals first | exact absurd rfl hb15 | exact absurd hb15 (by decide) | exact absurd hb15 (by simp [tickE])
                    · intro hb14; (try simp only [decide_eq_true_eq, decide_eq_false_iff_not, Bool.not_eq_true', Bool.not_eq_false', Bool.not_eq_eq_eq_not, Bool.not_true, Bool.not_false, Int.not_lt, Int.not_le] at hb14)
                      all_goals first | exact absurd rfl hb14 | exact absurd hb14 (by decide) | exact absurd hb14 (by simp [tickE])
                  · intro hb13; (try simp only [decide_eq_true_eq, decide_eq_false_iff_not, Bool.not_eq_true', Bool.not_eq_false', Bool.not_eq_eq_eq_not, Bool.not_true, Bool.not_false, Int.not_lt, Int.not_le] at hb13)
                    all_goals first | exact absurd hb13 (by decide) | exact absurd hb13 (by simp)
                · intro hb12; (try simp only [decide_eq_true_eq, decide_eq_false_iff_not, Bool.not_eq_true', Bool.not_eq_false', Bool.not_eq_eq_eq_not, Bool.not_true, Bool.not_false, Int.not_lt, Int.not_le] at hb12)
                  all_goals first | exact absurd rfl hb12 | exact absurd hb12 (by decide) | exact absurd hb12 (by simp [tickE])
      · (try simp only [decide_eq_true_eq, decide_eq_false_iff_not, Bool.not_eq_true', Bool.not_eq_false', Bool.not_eq_eq_eq_not, Bool.not_true, Bool.not_false, Int.not_lt, Int.not_le] at hb3)
        refine GW_skip ?_
        refine GW_seq ?_
        cases hG : tickG x with
        | none =>
          refine GW_region ?_
          refine GL_rd (wn_none rfl) rfl (rd_loadC rfl rfl Try.underlying35 rfl ts35 (hp.get 2 rfl) (by rw [bys_length, hx])) ?_
          refine GL_call (wn_none rfl) rfl rfl (tick_Get x _ hx) rfl ?_
          rintro _ w ⟨rfl, hk⟩
          have hp := hp.comp hk
          rw [hG]
          refine GL_rd (v := .tuple _) (wn_none rfl) rfl (rd_move rfl rfl) ?_
          refine GL_rd (v := .agg ⟨_⟩) (wn_none rfl) rfl (rd_extract rfl rfl rfl) ?_
          refine GL_rd (v := .int _ _) (wn_none rfl) rfl (rd_extract rfl rfl rfl) ?_
          refine GL_alloc (wn_none rfl) rfl rfl tz96 rfl hp ?_
          intro g7 w hp
          refine GL_store (i := 0) (wn_none rfl) rfl rfl rfl rfl ts96 rfl rfl (oneC rfl (oneC rfl one0)) hp rfl (by first | exact Nat.le_of_ble_eq_true rfl | simp [bys_length, *]) rfl ?_
          intro w hp
          refine GL_rd (v := .int _ _) (wn_none rfl) rfl (rd_assign rfl rfl) ?_
          refine GL_nil ?_
          refine GW_seq ?_
          refine GW_region ?_
          refine GL_rd (wn_none rfl) rfl (rd_loadC rfl rfl Try.underlying35 rfl ts35 (hp.get 3 rfl) (by rw [bys_length, hx])) ?_
          refine GL_call (wn_none rfl) rfl rfl (ref_tGet x _ hx) rfl ?_
          rintro _ w ⟨rfl, hk⟩
          have hp := hp.comp hk
          rw [hG]
          refine GL_rd (v := .tuple _) (wn_none rfl) rfl (rd_move rfl rfl) ?_
          refine GL_rd (v := .int _ _) (wn_none rfl) rfl (rd_extract rfl rfl rfl) ?_
          refine GL_rd (v := .int _ _) (wn_none rfl) rfl (rd_extract rfl rfl rfl) ?_
          refine GL_rd (v := .bool _) (wn_none rfl) rfl (rd_extract rfl rfl rfl) ?_
          refine GL_rd (v := .int _ _) (wn_none rfl) rfl (rd_assign rfl rfl) ?_
          refine GL_rd (v := .int _ _) (wn_none rfl) rfl (rd_assign rfl rfl) ?_
          refine GL_rd (v := .bool _) (wn_none rfl) rfl (rd_assign rfl rfl) ?_
          refine GL_nil ?_
          refine GW_seq ?_
          refine GW_region ?_
          refine GL_rd (v := .int _ _) (wn_none rfl) rfl (rd_move rfl rfl) ?_
          refine GL_rd (wn_none rfl) rfl (rd_bin rfl rfl rfl bo_eql) ?_
          refine GL_rd (v := .bool _) (wn_none rfl) rfl (rd_move rfl rfl) ?_
          refine GL_rd (wn_none rfl) rfl (rd_bin rfl rfl rfl (bo_beql Try.underlying4)) ?_
          refine GL_rd (v := .bool _) (wn_none rfl) rfl (rd_move rfl rfl) ?_
          refine GL_split (t := 75) (b := _) rfl ?_ ?_
          · intro hb16; (try simp only [decide_eq_true_eq, decide_eq_false_iff_not, Bool.not_eq_true', Bool.not_eq_false', Bool.not_eq_eq_eq_not, Bool.not_true, Bool.not_false, Int.not_lt, Int.not_le] at hb16)
            refine GL_rd (v := .bool _) (wn_on rfl rfl rfl rfl) rfl (rd_move rfl rfl) ?_
            refine GL_rd (v := .bool _) (wn_on rfl rfl rfl rfl) rfl (rd_move rfl rfl) ?_
            refine GL_split (t := 77) (b := _) rfl ?_ ?_
            · intro hb17; (try simp only [decide_eq_true_eq, decide_eq_false_iff_not, Bool.not_eq_true', Bool.not_eq_false', Bool.not_eq_eq_eq_not, Bool.not_true, Bool.not_false, Int.not_lt, Int.not_le] at hb17)
              all_goals first | exact absurd hb17 (by decide) | exact absurd hb17 (by simp)
            · intro hb17; (try simp only [decide_eq_true_eq, decide_eq_false_iff_not, Bool.not_eq_true', Bool.not_eq_false', Bool.not_eq_eq_eq_not, Bool.not_true, Bool.not_false, Int.not_lt, Int.not_le] at hb17)
              refine GL_rd (v := .int _ _) (wn_on rfl rfl rfl rfl) rfl (rd_move rfl rfl) ?_
              refine GL_rd (wn_on rfl rfl rfl rfl) rfl (rd_bin rfl rfl rfl bo_eql) ?_
              refine GL_rd (v := .bool _) (wn_on rfl rfl rfl rfl) rfl (rd_pickF rfl rfl rfl) ?_
              refine GL_rd (v := .bool _) (wn_none rfl) rfl (rd_pickT rfl rfl rfl) ?_
              refine GL_rd (v := .bool _) (wn_none rfl) rfl (rd_move rfl rfl) ?_
              refine GL_split (t := 82) (b := _) rfl ?_ ?_
              · intro hb18; (try simp only [decide_eq_true_eq, decide_eq_false_iff_not, Bool.not_eq_true', Bool.not_eq_false', Bool.not_eq_eq_eq_not, Bool.not_true, Bool.not_false, Int.not_lt, Int.not_le] at hb18)
                refine GL_rd (wn_on rfl rfl rfl rfl) rfl (rd_field rfl rfl fa96_0 _ rfl) ?_
                refine GL_rd (wn_on rfl rfl rfl rfl) rfl (rd_load rfl rfl Try.underlying3 rfl ((cell_of_cells (hp.get 0 rfl) _).trans rfl)) ?_
                refine GL_rd (v := .int _ _) (wn_on rfl rfl rfl rfl) rfl (rd_move rfl rfl) ?_
                refine GL_rd (wn_on rfl rfl rfl rfl) rfl (rd_bin rfl rfl rfl bo_eql) ?_
                refine GL_rd (v := .bool _) (wn_none rfl) rfl (rd_pickT rfl rfl rfl) ?_
                refine GL_rd (v := .bool _) (wn_none rfl) rfl (rd_move rfl rfl) ?_
                refine GL_split (t := 88) (b := _) rfl ?_ ?_
                · intro hb19; (try simp only [decide_eq_true_eq, decide_eq_false_iff_not, Bool.not_eq_true', Bool.not_eq_false', Bool.not_eq_eq_eq_not, Bool.not_true, Bool.not_false, Int.not_lt, Int.not_le] at hb19)
                  refine GL_rd (wn_on rfl rfl rfl rfl) rfl (rd_field rfl rfl fa96_1 _ rfl) ?_
                  refine GL_rd (wn_on rfl rfl rfl rfl) rfl (rd_load rfl rfl Try.underlying3 rfl ((cell_of_cells (hp.get 0 rfl) _).trans rfl)) ?_
                  refine GL_rd (v := .int _ _) (wn_on rfl rfl rfl rfl) rfl (rd_move rfl rfl) ?_
                  refine GL_rd (wn_on rfl rfl rfl rfl) rfl (rd_bin rfl rfl rfl bo_eql) ?_
                  refine GL_rd (v := .bool _) (wn_none rfl) rfl (rd_pickT rfl rfl rfl) ?_
                  refine GL_rd (v := .bool _) (wn_none rfl) rfl (rd_move rfl rfl) ?_
                  refine GL_split (t := 94) (b := _) rfl ?_ ?_
                  · intro hb20; (try simp only [decide_eq_true_eq, decide_eq_false_iff_not, Bool.not_eq_true', Bool.not_eq_false', Bool.not_eq_eq_eq_not, Bool.not_true, Bool.not_false, Int.not_lt, Int.not_le] at hb20)
                    refine GL_call (wn_on rfl rfl rfl rfl) rfl rfl (tick_works _) rfl ?_
                    rintro _ w ⟨rfl, hk⟩
                    have hp := hp.comp hk
                    refine GL_rd (v := .bool _) (wn_none rfl) rfl (rd_pickT rfl rfl rfl) ?_
                    refine GL_rd (v := .bool _) (wn_none rfl) rfl (rd_assign rfl rfl) ?_
                    refine GL_nil ?_
                    refine GW_ret ?_
                    exact ⟨_, res1 Try.results12 (rv_tmp (v := .bool _) rfl rfl), rfl, hp.mods⟩
                  · intro hb20; (try simp only [decide_eq_true_eq, decide_eq_false_iff_not, Bool.not_eq_true', Bool.not_eq_false', Bool.not_eq_eq_eq_not, Bool.not_true, Bool.not_false, Int.not_lt, Int.not_le] at hb20)
                    all_goals first | exact absurd rfl hb20 | exact absurd hb20 (by decide) | exact absurd hb20 (by simp [tickE])
                · intro hb19; (try simp only [decide_eq_true_eq, decide_eq_false_iff_not, Bool.not_eq_true', Bool.not_eq_false', Bool.not_eq_eq_eq_not, Bool.not_true, Bool.not_false, Int.not_lt, Int.not_le] at hb19)
                  all_goals first | exact absurd rfl hb19 | exact absurd hb19 (by decide) | exact absurd hb19 (by simp [tickE])
              · intro hb18; (try simp only [decide_eq_true_eq, decide_eq_false_iff_not, Bool.not_eq_true', Bool.not_eq_false', Bool.not_eq_eq_eq_not, Bool.not_true, Bool.not_false, Int.not_lt, Int.not_le] at hb18)
                all_goals first | exact absurd rfl hb18 | exact absurd hb18 (by decide) | exact absurd hb18 (by simp [tickE])
          · intro hb16; (try simp only [decide_eq_true_eq, decide_eq_false_iff_not, Bool.not_eq_true', Bool.not_eq_false', Bool.not_eq_eq_eq_not, Bool.not_true, Bool.not_false, Int.not_lt, Int.not_le] at hb16)
            all_goals first | exact absurd rfl hb16 | exact absurd hb16 (by decide) | exact absurd hb16 (by simp [tickE])
        | some ab =>
          obtain ⟨a1, b1⟩ := ab
          refine GW_region ?_
          refine GL_rd (wn_none rfl) rfl (rd_loadC rfl rfl Try.underlying35 rfl ts35 (hp.get 2 rfl) (by rw [bys_length, hx])) ?_
          refine GL_call (wn_none rfl) rfl rfl (tick_Get x _ hx) rfl ?_
          rintro _ w ⟨rfl, hk⟩
          have hp := hp.comp hk
          rw [hG]
          refine GL_rd (v := .tuple _) (wn_none rfl) rfl (rd_move rfl rfl) ?_
          refine GL_rd (v := .agg ⟨_⟩) (wn_none rfl) rfl (rd_extract rfl rfl rfl) ?_
          refine GL_rd (v := .int _ _) (wn_none rfl) rfl (rd_extract rfl rfl rfl) ?_
          refine GL_alloc (wn_none rfl) rfl rfl tz96 rfl hp ?_
          intro g8 w hp
          refine GL_store (i := 0) (wn_none rfl) rfl rfl rfl rfl ts96 rfl rfl (oneC rfl (oneC rfl one0)) hp rfl (by first | exact Nat.le_of_ble_eq_true rfl | simp [bys_length, *]) rfl ?_
          intro w hp
          refine GL_rd (v := .int _ _) (wn_none rfl) rfl (rd_assign rfl rfl) ?_
          refine GL_nil ?_
          refine GW_seq ?_
          refine GW_region ?_
          refine GL_rd (wn_none rfl) rfl (rd_loadC rfl rfl Try.underlying35 rfl ts35 (hp.get 3 rfl) (by rw [bys_length, hx])) ?_
          refine GL_call (wn_none rfl) rfl rfl (ref_tGet x _ hx) rfl ?_
          rintro _ w ⟨rfl, hk⟩
          have hp := hp.comp hk
          rw [hG]
          refine GL_rd (v := .tuple _) (wn_none rfl) rfl (rd_move rfl rfl) ?_
          refine GL_rd (v := .int _ _) (wn_none rfl) rfl (rd_extract rfl rfl rfl) ?_
          refine GL_rd (v := .int _ _) (wn_none rfl) rfl (rd_extract rfl rfl rfl) ?_
          refine GL_rd (v := .bool _) (wn_none rfl) rfl (rd_extract rfl rfl rfl) ?_
          refine GL_rd (v := .int _ _) (wn_none rfl) rfl (rd_assign rfl rfl) ?_
          refine GL_rd (v := .int _ _) (wn_none rfl) rfl (rd_assign rfl rfl) ?_
          refine GL_rd (v := .bool _) (wn_none rfl) rfl (rd_assign rfl rfl) ?_
          refine GL_nil ?_
          refine GW_seq ?_
          refine GW_region ?_
          refine GL_rd (v := .int _ _) (wn_none rfl) rfl (rd_move rfl rfl) ?_
          refine GL_rd (wn_none rfl) rfl (rd_bin rfl rfl rfl bo_eql) ?_
          refine GL_rd (v := .bool _) (wn_none rfl) rfl (rd_move rfl rfl) ?_
          refine GL_rd (wn_none rfl) rfl (rd_bin rfl rfl rfl (bo_beql Try.underlying4)) ?_
          refine GL_rd (v := .bool _) (wn_none rfl) rfl (rd_move rfl rfl) ?_
          refine GL_split (t := 75) (b := _) rfl ?_ ?_
          · intro hb21; (try simp only [decide_eq_true_eq, decide_eq_false_iff_not, Bool.not_eq_true', Bool.not_eq_false', Bool.not_eq_eq_eq_not, Bool.not_true, Bool.not_false, Int.not_lt, Int.not_le] at hb21)
            refine GL_rd (v := .bool _) (wn_on rfl rfl rfl rfl) rfl (rd_move rfl rfl) ?_
            refine GL_rd (v := .bool _) (wn_on rfl rfl rfl rfl) rfl (rd_move rfl rfl) ?_
            refine GL_split (t := 77) (b := _) rfl ?_ ?_
            · intro hb22; (try simp only [decide_eq_true_eq, decide_eq_false_iff_not, Bool.not_eq_true', Bool.not_eq_false', Bool.not_eq_eq_eq_not, Bool.not_true, Bool.not_false, Int.not_lt, Int.not_le] at hb22)
              refine GL_pass (nw_off rfl rfl rfl rfl rfl) rfl ?_
              refine GL_pass (nw_off rfl rfl rfl rfl rfl) rfl ?_
              refine GL_rd (v := .bool _) (wn_on rfl rfl rfl rfl) rfl (rd_pickT rfl rfl rfl) ?_
              refine GL_rd (v := .bool _) (wn_none rfl) rfl (rd_pickT rfl rfl rfl) ?_
              refine GL_rd (v := .bool _) (wn_none rfl) rfl (rd_move rfl rfl) ?_
              refine GL_rd (wn_on rfl rfl rfl rfl) rfl (rd_field rfl rfl fa96_0 _ rfl) ?_
              refine GL_rd (wn_on rfl rfl rfl rfl) rfl (rd_load rfl rfl Try.underlying3 rfl ((cell_of_cells (hp.get 0 rfl) _).trans rfl)) ?_
              refine GL_rd (v := .int _ _) (wn_on rfl rfl rfl rfl) rfl (rd_move rfl rfl) ?_
              refine GL_rd (wn_on rfl rfl rfl rfl) rfl (rd_bin rfl rfl rfl bo_eql) ?_
              refine GL_rd (v := .bool _) (wn_none rfl) rfl (rd_pickT rfl rfl rfl) ?_
              refine GL_rd (v := .bool _) (wn_none rfl) rfl (rd_move rfl rfl) ?_
              refine GL_split (t := 88) (b := _) rfl ?_ ?_
              · intro hb23; (try simp only [decide_eq_true_eq, decide_eq_false_iff_not, Bool.not_eq_true', Bool.not_eq_false', Bool.not_eq_eq_eq_not, Bool.not_true, Bool.not_false, Int.not_lt, Int.not_le] at hb23)
                refine GL_rd (wn_on rfl rfl rfl rfl) rfl (rd_field rfl rfl fa96_1 _ rfl) ?_
                refine GL_rd (wn_on rfl rfl rfl rfl) rfl (rd_load rfl rfl Try.underlying3 rfl ((cell_of_cells (hp.get 0 rfl) _).trans rfl)) ?_
                refine GL_rd (v := .int _ _) (wn_on rfl rfl rfl rfl) rfl (rd_move rfl rfl) ?_
                refine GL_rd (wn_on rfl rfl rfl rfl) rfl (rd_bin rfl rfl rfl bo_eql) ?_
                refine GL_rd (v := .bool _) (wn_none rfl) rfl (rd_pickT rfl rfl rfl) ?_
                refine GL_rd (v := .bool _) (wn_none rfl) rfl (rd_move rfl rfl) ?_
                refine GL_split (t := 94) (b := _) rfl ?_ ?_
                · intro hb24; (try simp only [decide_eq_true_eq, decide_eq_false_iff_not, Bool.not_eq_true', Bool.not_eq_false', Bool.not_eq_eq_eq_not, Bool.not_true, Bool.not_false, Int.not_lt, Int.not_le] at hb24)
                  refine GL_call (wn_on rfl rfl rfl rfl) rfl rfl (tick_works _) rfl ?_
                  rintro _ w ⟨rfl, hk⟩
                  have hp := hp.comp hk
                  refine GL_rd (v := .bool _) (wn_none rfl) rfl (rd_pickT rfl rfl rfl) ?_
                  refine GL_rd (v := .bool _) (wn_none rfl) rfl (rd_assign rfl rfl) ?_
                  refine GL_nil ?_
                  refine GW_ret ?_
                  exact ⟨_, res1 Try.results12 (rv_tmp (v := .bool _) rfl rfl), rfl, hp.mods⟩
                · intro hb24; (try simp only [decide_eq_true_eq, decide_eq_false_iff_not, Bool.not_eq_true', Bool.not_eq_false', Bool.not_eq_eq_eq_not, Bool.not_true, Bool.not_false, Int.not_lt, Int.not_le] at hb24)
                  all_goals first | exact absurd rfl hb24 | exact absurd hb24 (by decide) | exact absurd hb24 (by simp [tickE])
              · intro hb23; (try simp only [decide_eq_true_eq, decide_eq_false_iff_not, Bool.not_eq_true', Bool.not_eq_false', Bool.not_eq_eq_eq_not, Bool.not_true, Bool.not_false, Int.not_lt, Int.not_le] at hb23)
                all_goals first | exact absurd rfl hb23 | exact absurd hb23 (by decide) | exact absurd hb23 (by simp [tickE])
            · intro hb22; (try simp only [decide_eq_true_eq, decide_eq_false_iff_not, Bool.not_eq_true', Bool.not_eq_false', Bool.not_eq_eq_eq_not, Bool.not_true, Bool.not_false, Int.not_lt, Int.not_le] at hb22)
              all_goals first | exact absurd hb22 (by decide) | exact absurd hb22 (by simp)
          · intro hb21; (try simp only [decide_eq_true_eq, decide_eq_false_iff_not, Bool.not_eq_true', Bool.not_eq_false', Bool.not_eq_eq_eq_not, Bool.not_true, Bool.not_false, Int.not_lt, Int.not_le] at hb21)
            all_goals first | exact absurd rfl hb21 | exact absurd hb21 (by decide) | exact absurd hb21 (by simp [tickE])

end Go.Proofs.Ytlfepdlbklmmlaa
