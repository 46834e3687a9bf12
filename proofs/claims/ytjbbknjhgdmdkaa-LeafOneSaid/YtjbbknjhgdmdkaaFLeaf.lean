/- Walks of functions of the program. -/
import Derived.Test.YtjbbknjhgdmdkaaActs
import Derived.Test.YtjbbknjhgdmdkaaTypes
import Derived.Test.YtjbbknjhgdmdkaaLeafS
import Derived.Test.YtjbbknjhgdmdkaaFSeal
set_option linter.unusedVariables false
set_option linter.unusedSimpArgs false
namespace Go.Proofs.Ytjbbknjhgdmdkaa
open Go.Mo Go.RowKit
theorem chunk_Count (n : Int) (w0 : World) (hn : -9223372036854775808 ≤ n ∧ n ≤ 9223372036854775807) : Does Try.prog 113 #[.int .i64 n] w0 fun v w' => v = .int .i64 (countI n) ∧ Hp w0 [] w' [] := by
 refine does_of (l := [.int .i64 n]) Try.func113 (by kernel_rfl) rfl Try.ntmps113 rfl rfl ?_
 have hp := Hp.refl w0 []
 refine GW_seq ?_
 refine GW_region ?_
 refine GL_rd (v := .int _ _) (wn_none rfl) rfl (rd_assign rfl rfl) ?_
 refine GL_nil ?_
 refine GW_seq ?_
 refine GW_seq ?_
 refine GW_region ?_
 refine GL_rd (v := .int _ _) (wn_none rfl) rfl (rd_move rfl rfl) ?_
 refine GL_rd (wn_none rfl) rfl (rd_bin rfl rfl rfl bo_lss) ?_
 refine GL_nil ?_
 refine GW_cond rfl (fun hb => ?_) (fun hb => ?_)
 ·(try simp only [decide_eq_true_eq, decide_eq_false_iff_not, Bool.not_eq_true', Bool.not_eq_false', Bool.not_eq_eq_eq_not, Bool.not_true, Bool.not_false, Int.not_lt, Int.not_le] at hb)
  refine GW_seq ?_
  refine GW_region ?_
  refine GL_rd (v := .int _ _) (wn_none rfl) rfl (rd_assign rfl rfl) ?_
  refine GL_nil ?_
  refine GW_ret ?_
  exact ⟨_, res1 Try.results113 (rv_tmp (v := .int _ _) rfl rfl), by rw [countI, if_pos (by omega)], hp⟩
 ·(try simp only [decide_eq_true_eq, decide_eq_false_iff_not, Bool.not_eq_true', Bool.not_eq_false', Bool.not_eq_eq_eq_not, Bool.not_true, Bool.not_false, Int.not_lt, Int.not_le] at hb)
  refine GW_skip ?_
  refine GW_seq ?_
  refine GW_region ?_
  refine GL_rd (v := .int _ _) (wn_none rfl) rfl (rd_move rfl rfl) ?_
  refine GL_rd (wn_none rfl) rfl (rd_bin rfl rfl rfl (bo_sub64 (by omega))) ?_
  refine GL_rd (wn_none rfl) rfl (rd_bin rfl rfl rfl (bo_quo64 (by omega) (by omega) (by omega))) ?_
  refine GL_rd (wn_none rfl) rfl (rd_bin rfl rfl rfl (bo_add64 (by omega))) ?_
  refine GL_rd (v := .int _ _) (wn_none rfl) rfl (rd_assign rfl rfl) ?_
  refine GL_nil ?_
  refine GW_ret ?_
  exact ⟨_, res1 Try.results113 (rv_tmp (v := .int _ _) rfl rfl), by rw [countI, if_neg (by omega)], hp⟩

theorem leaf_Check (a : List UInt8) (s : Int) (sv : Value) (b : Int) (n : Nat) (l : List Int) (m : Int) (w0 : World) (ha : a.length = 32) (hs : Sl w0 sv 1 n (l.map (Value.int .i64))) (hsz : -9223372036854775808 ≤ s ∧ s ≤ 9223372036854775807) : Does Try.prog 48 #[.agg ⟨textC a s sv b⟩, .int .i64 m] w0 fun v w' => v = .int .i64 (leafC s l b m) ∧ Hp w0 [] w' [] := by
 obtain ⟨A, c, rfl⟩ := sl_shape hs
 have hnl : l.length = n := by have := hs.len; simpa using this
 have hmle := hs.le
 refine does_of (l := [.agg ⟨textC a s (.slice A n c) b⟩, .int .i64 m]) Try.func48 (by kernel_rfl) rfl Try.ntmps48 rfl rfl ?_
 have hp := Hp.refl w0 []
 refine GW_seq ?_
 refine GW_region ?_
 refine GL_box (wn_none rfl) rfl rfl rfl rfl hp ?_
 intro g w hp
 refine GL_rd (v := .int _ _) (wn_none rfl) rfl (rd_assign rfl rfl) ?_
 refine GL_nil ?_
 refine GW_seq ?_
 refine GW_block ?_
 refine GW_seq ?_
 refine GW_region ?_
 refine GL_rd (wn_none rfl) rfl (rd_field rfl rfl fa72_1 _ rfl) ?_
 refine GL_rd (wn_none rfl) rfl (rd_load rfl rfl Try.underlying3 rfl ((cell_of_cells (hp.get 0 rfl) _).trans (txt32 ha _ _ _))) ?_
 refine GL_rd (wn_none rfl) rfl (rd_bin rfl rfl rfl bo_lss) ?_
 refine GL_rd (v := .bool _) (wn_none rfl) rfl (rd_move rfl rfl) ?_
 refine GL_split (t := 11) (b := _) rfl ?_ ?_
 ·intro hb; (try simp only [decide_eq_true_eq, decide_eq_false_iff_not, Bool.not_eq_true', Bool.not_eq_false', Bool.not_eq_eq_eq_not, Bool.not_true, Bool.not_false, Int.not_lt, Int.not_le] at hb)
  refine GL_pass (nw_off rfl rfl rfl rfl rfl) rfl ?_
  refine GL_pass (nw_off rfl rfl rfl rfl rfl) rfl ?_
  refine GL_pass (nw_off rfl rfl rfl rfl rfl) rfl ?_
  refine GL_rd (v := .bool _) (wn_none rfl) rfl (rd_pickT rfl rfl rfl) ?_
  refine GL_rd (v := .bool _) (wn_none rfl) rfl (rd_assign rfl rfl) ?_
  refine GL_nil ?_
  refine GW_true rfl ?_
  refine GW_seq ?_
  refine GW_region ?_
  refine GL_rd (v := .int _ _) (wn_none rfl) rfl (rd_assign rfl rfl) ?_
  refine GL_nil ?_
  refine GW_ret ?_
  have e : leafC s l b m = 15 := by rw [leafC, if_pos (by omega)]
  exact ⟨_, res1 Try.results48 (rv_tmp (v := .int _ _) rfl rfl), by rw [e], hp.mods⟩
 ·intro hb; (try simp only [decide_eq_true_eq, decide_eq_false_iff_not, Bool.not_eq_true', Bool.not_eq_false', Bool.not_eq_eq_eq_not, Bool.not_true, Bool.not_false, Int.not_lt, Int.not_le] at hb)
  refine GL_rd (wn_on rfl rfl rfl rfl) rfl (rd_field rfl rfl fa72_1 _ rfl) ?_
  refine GL_rd (wn_on rfl rfl rfl rfl) rfl (rd_load rfl rfl Try.underlying3 rfl ((cell_of_cells (hp.get 0 rfl) _).trans (txt32 ha _ _ _))) ?_
  refine GL_rd (wn_on rfl rfl rfl rfl) rfl (rd_bin rfl rfl rfl bo_gtr) ?_
  refine GL_rd (v := .bool _) (wn_none rfl) rfl (rd_pickF rfl rfl rfl) ?_
  refine GL_rd (v := .bool _) (wn_none rfl) rfl (rd_assign rfl rfl) ?_
  refine GL_nil ?_
  refine GW_cond rfl (fun hb2 => ?_) (fun hb2 => ?_)
  ·(try simp only [decide_eq_true_eq, decide_eq_false_iff_not, Bool.not_eq_true', Bool.not_eq_false', Bool.not_eq_eq_eq_not, Bool.not_true, Bool.not_false, Int.not_lt, Int.not_le] at hb2)
   refine GW_seq ?_
   refine GW_region ?_
   refine GL_rd (v := .int _ _) (wn_none rfl) rfl (rd_assign rfl rfl) ?_
   refine GL_nil ?_
   refine GW_ret ?_
   have e : leafC s l b m = 15 := by rw [leafC, if_pos (by omega)]
   exact ⟨_, res1 Try.results48 (rv_tmp (v := .int _ _) rfl rfl), by rw [e], hp.mods⟩
  ·(try simp only [decide_eq_true_eq, decide_eq_false_iff_not, Bool.not_eq_true', Bool.not_eq_false', Bool.not_eq_eq_eq_not, Bool.not_true, Bool.not_false, Int.not_lt, Int.not_le] at hb2)
   refine GW_seq ?_
   refine GW_drawnK 8 (.one 0 true (.one 1 true (.one 2 true (.one 3 true (.one 4 true (.one 5 false (.one 6 true (.one 7 true .nil)))))))) mixed (by kernel_rfl) hp (fun _ h => h) fun w hp => ?_
   have hpS := hp
   refine GO_rd rfl (wn_none rfl) rfl hpS (fun w hp => (rd_field rfl rfl fa72_2 _ rfl)) ?_
   refine GO_rd (v := .slice _ _ _) rfl (wn_none rfl) rfl hpS (fun w hp => (rd_load rfl rfl Try.underlying57 rfl ((cell_of_cells (hp.get 0 rfl) _).trans (txt33 ha _ _ _)))) ?_
   refine GO_rd rfl (wn_none rfl) rfl hpS (fun w hp => (rd_len rfl rfl Try.underlying57)) ?_
   refine GO_rd rfl (wn_none rfl) rfl hpS (fun w hp => (rd_field rfl rfl fa72_1 _ rfl)) ?_
   refine GO_rd rfl (wn_none rfl) rfl hpS (fun w hp => (rd_load rfl rfl Try.underlying3 rfl ((cell_of_cells (hp.get 0 rfl) _).trans (txt32 ha _ _ _)))) ?_
   refine GO_of_GL rfl ?_
   refine GL_call (wn_none rfl) rfl rfl (chunk_Count s _ hsz) rfl ?_
   rintro _ w ⟨rfl, hk⟩
   have hp := hp.comp hk
   have hpS2 := hp
   refine GL_nil ⟨fun _ => hpS2, ?_⟩
   refine GO_rd rfl (wn_none rfl) rfl hpS2 (fun w hp => (rd_bin rfl rfl rfl bo_neq)) ?_
   refine GO_rd (v := .bool _) rfl (wn_none rfl) rfl hpS2 (fun w hp => (rd_assign rfl rfl)) ?_
   refine GO_nil ?_
   refine GW_cond rfl (fun hb3 => ?_) (fun hb3 => ?_)
   ·(try simp only [decide_eq_true_eq, decide_eq_false_iff_not, Bool.not_eq_true', Bool.not_eq_false', Bool.not_eq_eq_eq_not, Bool.not_true, Bool.not_false, Int.not_lt, Int.not_le] at hb3)
    refine GW_seq ?_
    refine GW_region ?_
    refine GL_rd (v := .int _ _) (wn_none rfl) rfl (rd_assign rfl rfl) ?_
    refine GL_nil ?_
    refine GW_ret ?_
    have e : leafC s l b m = 1 := by rw [leafC, if_neg (by omega), if_pos (by omega)]
    exact ⟨_, res1 Try.results48 (rv_tmp (v := .int _ _) rfl rfl), by rw [e], hp.mods⟩
   ·(try simp only [decide_eq_true_eq, decide_eq_false_iff_not, Bool.not_eq_true', Bool.not_eq_false', Bool.not_eq_eq_eq_not, Bool.not_true, Bool.not_false, Int.not_lt, Int.not_le] at hb3)
    refine GW_seq ?_
    refine GW_region ?_
    refine GL_rd (wn_none rfl) rfl (rd_field rfl rfl fa72_3 _ rfl) ?_
    refine GL_rd (wn_none rfl) rfl (rd_load rfl rfl Try.underlying3 rfl ((cell_of_cells (hp.get 0 rfl) _).trans (txt34 ha _ _ _))) ?_
    refine GL_rd (wn_none rfl) rfl (rd_bin rfl rfl rfl bo_lss) ?_
    refine GL_rd (v := .bool _) (wn_none rfl) rfl (rd_move rfl rfl) ?_
    refine GL_split (t := 28) (b := _) rfl ?_ ?_
    ·intro hb4; (try simp only [decide_eq_true_eq, decide_eq_false_iff_not, Bool.not_eq_true', Bool.not_eq_false', Bool.not_eq_eq_eq_not, Bool.not_true, Bool.not_false, Int.not_lt, Int.not_le] at hb4)
     refine GL_pass (nw_off rfl rfl rfl rfl rfl) rfl ?_
     refine GL_pass (nw_off rfl rfl rfl rfl rfl) rfl ?_
     refine GL_pass (nw_off rfl rfl rfl rfl rfl) rfl ?_
     refine GL_rd (v := .bool _) (wn_none rfl) rfl (rd_pickT rfl rfl rfl) ?_
     refine GL_rd (v := .bool _) (wn_none rfl) rfl (rd_assign rfl rfl) ?_
     refine GL_nil ?_
     refine GW_true rfl ?_
     refine GW_seq ?_
     refine GW_region ?_
     refine GL_rd (v := .int _ _) (wn_none rfl) rfl (rd_assign rfl rfl) ?_
     refine GL_nil ?_
     refine GW_ret ?_
     have e : leafC s l b m = 2 := by rw [leafC, if_neg (by omega), if_neg (by omega), if_pos (by omega)]
     exact ⟨_, res1 Try.results48 (rv_tmp (v := .int _ _) rfl rfl), by rw [e], hp.mods⟩
    ·intro hb4; (try simp only [decide_eq_true_eq, decide_eq_false_iff_not, Bool.not_eq_true', Bool.not_eq_false', Bool.not_eq_eq_eq_not, Bool.not_true, Bool.not_false, Int.not_lt, Int.not_le] at hb4)
     refine GL_rd (wn_on rfl rfl rfl rfl) rfl (rd_field rfl rfl fa72_3 _ rfl) ?_
     refine GL_rd (wn_on rfl rfl rfl rfl) rfl (rd_load rfl rfl Try.underlying3 rfl ((cell_of_cells (hp.get 0 rfl) _).trans (txt34 ha _ _ _))) ?_
     refine GL_rd (wn_on rfl rfl rfl rfl) rfl (rd_bin rfl rfl rfl bo_gtr) ?_
     refine GL_rd (v := .bool _) (wn_none rfl) rfl (rd_pickF rfl rfl rfl) ?_
     refine GL_rd (v := .bool _) (wn_none rfl) rfl (rd_assign rfl rfl) ?_
     refine GL_nil ?_
     refine GW_cond rfl (fun hb5 => ?_) (fun hb5 => ?_)
     ·(try simp only [decide_eq_true_eq, decide_eq_false_iff_not, Bool.not_eq_true', Bool.not_eq_false', Bool.not_eq_eq_eq_not, Bool.not_true, Bool.not_false, Int.not_lt, Int.not_le] at hb5)
      refine GW_seq ?_
      refine GW_region ?_
      refine GL_rd (v := .int _ _) (wn_none rfl) rfl (rd_assign rfl rfl) ?_
      refine GL_nil ?_
      refine GW_ret ?_
      have e : leafC s l b m = 2 := by rw [leafC, if_neg (by omega), if_neg (by omega), if_pos (by omega)]
      exact ⟨_, res1 Try.results48 (rv_tmp (v := .int _ _) rfl rfl), by rw [e], hp.mods⟩
     ·(try simp only [decide_eq_true_eq, decide_eq_false_iff_not, Bool.not_eq_true', Bool.not_eq_false', Bool.not_eq_eq_eq_not, Bool.not_true, Bool.not_false, Int.not_lt, Int.not_le] at hb5)
      refine GW_skip ?_
      refine GW_seq ?_
      refine GW_seq ?_
      refine GW_region ?_
      refine GL_rd (wn_none rfl) rfl (rd_field rfl rfl fa72_2 _ rfl) ?_
      refine GL_rd (v := .slice _ _ _) (wn_none rfl) rfl (rd_load rfl rfl Try.underlying57 rfl ((cell_of_cells (hp.get 0 rfl) _).trans (txt33 ha _ _ _))) ?_
      refine GL_rd (wn_none rfl) rfl (rd_len rfl rfl Try.underlying57) ?_
      refine GL_rd (v := .int _ _) (wn_none rfl) rfl (rd_move rfl rfl) ?_
      refine GL_nil ?_
      refine GW_block ?_
      refine GW_loop ?_
      refine Lp_ind (α := Nat) (fun a_0 f_0 w' => match a_0 with | i => ∃ fz, f_0 = (upd (upd (upd (upd fz 1 (.int .i64 m)) 34 (.slice A n c)) 35 (.int .i64 (n : Int))) 36 (.int .i64 (i : Int))) ∧ Hp w0 [] w' [cells g 72 (textC a s (.slice A n c) b)] ∧ (i ≤ n) ∧ ((l.take i).all (slotOk m) = true)) (fun a_0 => match a_0 with | i => n - i) ?_ 0 _ _ ?_
      ·rintro i f wz ⟨fz, rfl, hp, hi0, hall0⟩ ihL0
       refine Lp_round ?_
       refine GW_seq ?_
       refine GW_region ?_
       refine GL_rd (wn_none rfl) rfl (rd_bin rfl rfl rfl bo_lss) ?_
       refine GL_nil ?_
       refine GW_seq ?_
       refine GW_cond rfl (fun hb6 => ?_) (fun hb6 => ?_)
       ·(try simp only [decide_eq_true_eq, decide_eq_false_iff_not, Bool.not_eq_true', Bool.not_eq_false', Bool.not_eq_eq_eq_not, Bool.not_true, Bool.not_false, Int.not_lt, Int.not_le] at hb6)
        obtain ⟨y, hy⟩ : ∃ y, l[i]? = some y := ⟨_, List.getElem?_eq_getElem (by omega)⟩
        obtain ⟨gA, bA, rfl⟩ := hs.addr (by rw [List.length_map]; omega)
        refine GW_skip ?_
        refine GW_seq ?_
        refine GW_block ?_
        refine GW_seq ?_
        refine GW_region ?_
        refine GL_rd (wn_none rfl) rfl (rd_indexS (j := i) rfl rfl rfl Try.underlying57 ts3 rfl (by omega) _ rfl) ?_
        refine GL_rd (wn_none rfl) rfl (rd_load rfl rfl Try.underlying3 rfl ((hs.keep hp.mod).get (i * 1) _ (by rw [Nat.mul_one, List.getElem?_map, hy]; rfl))) ?_
        refine GL_rd (v := .int _ _) (wn_none rfl) rfl (rd_assign rfl rfl) ?_
        refine GL_nil ?_
        refine GW_seq ?_
        refine GW_region ?_
        refine GL_rd (v := .int _ _) (wn_none rfl) rfl (rd_move rfl rfl) ?_
        refine GL_rd (wn_none rfl) rfl (rd_bin rfl rfl rfl bo_lss) ?_
        refine GL_rd (v := .bool _) (wn_none rfl) rfl (rd_move rfl rfl) ?_
        refine GL_split (t := 42) (b := _) rfl ?_ ?_
        ·intro hb7; (try simp only [decide_eq_true_eq, decide_eq_false_iff_not, Bool.not_eq_true', Bool.not_eq_false', Bool.not_eq_eq_eq_not, Bool.not_true, Bool.not_false, Int.not_lt, Int.not_le] at hb7)
         refine GL_pass (nw_off rfl rfl rfl rfl rfl) rfl ?_
         refine GL_pass (nw_off rfl rfl rfl rfl rfl) rfl ?_
         refine GL_pass (nw_off rfl rfl rfl rfl rfl) rfl ?_
         refine GL_rd (v := .bool _) (wn_none rfl) rfl (rd_pickT rfl rfl rfl) ?_
         refine GL_rd (v := .bool _) (wn_none rfl) rfl (rd_move rfl rfl) ?_
         refine GL_pass (nw_off rfl rfl rfl rfl rfl) rfl ?_
         refine GL_pass (nw_off rfl rfl rfl rfl rfl) rfl ?_
         refine GL_rd (v := .bool _) (wn_none rfl) rfl (rd_pickT rfl rfl rfl) ?_
         refine GL_nil ?_
         refine GW_true rfl ?_
         refine GW_seq ?_
         refine GW_region ?_
         refine GL_rd (v := .int _ _) (wn_none rfl) rfl (rd_assign rfl rfl) ?_
         refine GL_nil ?_
         refine GW_ret ?_
         have e : leafC s l b m = 2 := by rw [leafC, if_neg (by omega), if_neg (by omega), if_neg (by omega), all_no hy (by simp only [slotOk, decide_eq_false_iff_not]; omega)]; rfl
         exact ⟨_, res1 Try.results48 (rv_tmp (v := .int _ _) rfl rfl), by rw [e], hp.mods⟩
        ·intro hb7; (try simp only [decide_eq_true_eq, decide_eq_false_iff_not, Bool.not_eq_true', Bool.not_eq_false', Bool.not_eq_eq_eq_not, Bool.not_true, Bool.not_false, Int.not_lt, Int.not_le] at hb7)
         refine GL_rd (v := .int _ _) (wn_on rfl rfl rfl rfl) rfl (rd_move rfl rfl) ?_
         refine GL_rd (v := .int _ _) (wn_on rfl rfl rfl rfl) rfl (rd_move rfl rfl) ?_
         refine GL_rd (wn_on rfl rfl rfl rfl) rfl (rd_bin rfl rfl rfl bo_geq) ?_
         refine GL_rd (v := .bool _) (wn_none rfl) rfl (rd_pickF rfl rfl rfl) ?_
         refine GL_rd (v := .bool _) (wn_none rfl) rfl (rd_move rfl rfl) ?_
         refine GL_split (t := 47) (b := _) rfl ?_ ?_
         ·intro hb8; (try simp only [decide_eq_true_eq, decide_eq_false_iff_not, Bool.not_eq_true', Bool.not_eq_false', Bool.not_eq_eq_eq_not, Bool.not_true, Bool.not_false, Int.not_lt, Int.not_le] at hb8)
          refine GL_pass (nw_off rfl rfl rfl rfl rfl) rfl ?_
          refine GL_pass (nw_off rfl rfl rfl rfl rfl) rfl ?_
          refine GL_rd (v := .bool _) (wn_none rfl) rfl (rd_pickT rfl rfl rfl) ?_
          refine GL_nil ?_
          refine GW_true rfl ?_
          refine GW_seq ?_
          refine GW_region ?_
          refine GL_rd (v := .int _ _) (wn_none rfl) rfl (rd_assign rfl rfl) ?_
          refine GL_nil ?_
          refine GW_ret ?_
          have e : leafC s l b m = 2 := by rw [leafC, if_neg (by omega), if_neg (by omega), if_neg (by omega), all_no hy (by simp only [slotOk, decide_eq_false_iff_not]; omega)]; rfl
          exact ⟨_, res1 Try.results48 (rv_tmp (v := .int _ _) rfl rfl), by rw [e], hp.mods⟩
         ·intro hb8; (try simp only [decide_eq_true_eq, decide_eq_false_iff_not, Bool.not_eq_true', Bool.not_eq_false', Bool.not_eq_eq_eq_not, Bool.not_true, Bool.not_false, Int.not_lt, Int.not_le] at hb8)
          refine GL_rd (v := .int _ _) (wn_on rfl rfl rfl rfl) rfl (rd_move rfl rfl) ?_
          refine GL_rd (wn_on rfl rfl rfl rfl) rfl (rd_bin rfl rfl rfl bo_geq) ?_
          refine GL_rd (v := .bool _) (wn_none rfl) rfl (rd_pickF rfl rfl rfl) ?_
          refine GL_nil ?_
          refine GW_cond rfl (fun hb9 => ?_) (fun hb9 => ?_)
          ·(try simp only [decide_eq_true_eq, decide_eq_false_iff_not, Bool.not_eq_true', Bool.not_eq_false', Bool.not_eq_eq_eq_not, Bool.not_true, Bool.not_false, Int.not_lt, Int.not_le] at hb9)
           refine GW_seq ?_
           refine GW_region ?_
           refine GL_rd (v := .int _ _) (wn_none rfl) rfl (rd_assign rfl rfl) ?_
           refine GL_nil ?_
           refine GW_ret ?_
           have e : leafC s l b m = 2 := by rw [leafC, if_neg (by omega), if_neg (by omega), if_neg (by omega), all_no hy (by simp only [slotOk, decide_eq_false_iff_not]; omega)]; rfl
           exact ⟨_, res1 Try.results48 (rv_tmp (v := .int _ _) rfl rfl), by rw [e], hp.mods⟩
          ·(try simp only [decide_eq_true_eq, decide_eq_false_iff_not, Bool.not_eq_true', Bool.not_eq_false', Bool.not_eq_eq_eq_not, Bool.not_true, Bool.not_false, Int.not_lt, Int.not_le] at hb9)
           refine GW_skip ?_
           refine GW_region ?_
           refine GL_rd (wn_none rfl) rfl (rd_bin rfl rfl rfl (bo_add64 (by omega))) ?_
           refine GL_rd (v := .int _ _) (wn_none rfl) rfl (rd_move rfl rfl) ?_
           refine GL_nil ?_
           exact ihL0 (i + 1) _ _ (by simp only []; omega) ⟨_, slots4 rfl rfl rfl rfl, hp, (by omega), all_take hall0 hy (by simp only [slotOk, decide_eq_true_eq]; omega)⟩
       ·(try simp only [decide_eq_true_eq, decide_eq_false_iff_not, Bool.not_eq_true', Bool.not_eq_false', Bool.not_eq_eq_eq_not, Bool.not_true, Bool.not_false, Int.not_lt, Int.not_le] at hb6)
        have hall : l.all (slotOk m) = true := by rw [List.take_of_length_le (by omega)] at hall0; exact hall0
        refine GW_exit ?_
        refine GW_seq ?_
        refine GW_region ?_
        refine GL_rd (v := .int _ _) (wn_none rfl) rfl (rd_assign rfl rfl) ?_
        refine GL_nil ?_
        refine GW_ret ?_
        have e : leafC s l b m = 0 := by rw [leafC, if_neg (by omega), if_neg (by omega), if_neg (by omega), if_pos hall]
        exact ⟨_, res1 Try.results48 (rv_tmp (v := .int _ _) rfl rfl), by rw [e], hp.mods⟩
      ·refine ⟨_, slots4 rfl rfl rfl rfl, hp, Nat.zero_le _, rfl⟩

theorem ref_leafCheck (a : List UInt8) (s : Int) (sv : Value) (b : Int) (n : Nat) (l : List Int) (m : Int) (w0 : World) (ha : a.length = 32) (hs : Sl w0 sv 1 n (l.map (Value.int .i64))) (hsz : -9223372036854775808 ≤ s ∧ s ≤ 9223372036854775807) : Does Try.prog 49 #[.agg ⟨textC a s sv b⟩, .int .i64 m] w0 fun v w' => v = .int .i64 (leafC s l b m) ∧ Hp w0 [] w' [] := by
 obtain ⟨A, c, rfl⟩ := sl_shape hs
 have hnl : l.length = n := by have := hs.len; simpa using this
 have hmle := hs.le
 have hcnt : 1 ≤ s → s ≤ 2048 → (s + 255) / 256 = countI s := fun h1 h2 => by rw [countI, if_neg (by omega)]; omega
 refine does_of (l := [.agg ⟨textC a s (.slice A n c) b⟩, .int .i64 m]) Try.func49 (by kernel_rfl) rfl Try.ntmps49 rfl rfl ?_
 have hp := Hp.refl w0 []
 refine GW_seq ?_
 refine GW_region ?_
 refine GL_box (wn_none rfl) rfl rfl rfl rfl hp ?_
 intro g w hp
 refine GL_rd (v := .int _ _) (wn_none rfl) rfl (rd_assign rfl rfl) ?_
 refine GL_nil ?_
 refine GW_seq ?_
 refine GW_seq ?_
 refine GW_region ?_
 refine GL_rd (wn_none rfl) rfl (rd_field rfl rfl fa72_1 _ rfl) ?_
 refine GL_rd (wn_none rfl) rfl (rd_load rfl rfl Try.underlying3 rfl ((cell_of_cells (hp.get 0 rfl) _).trans (txt32 ha _ _ _))) ?_
 refine GL_rd (wn_none rfl) rfl (rd_bin rfl rfl rfl bo_lss) ?_
 refine GL_rd (v := .bool _) (wn_none rfl) rfl (rd_move rfl rfl) ?_
 refine GL_split (t := 9) (b := _) rfl ?_ ?_
 ·intro hb; (try simp only [decide_eq_true_eq, decide_eq_false_iff_not, Bool.not_eq_true', Bool.not_eq_false', Bool.not_eq_eq_eq_not, Bool.not_true, Bool.not_false, Int.not_lt, Int.not_le] at hb)
  refine GL_pass (nw_off rfl rfl rfl rfl rfl) rfl ?_
  refine GL_pass (nw_off rfl rfl rfl rfl rfl) rfl ?_
  refine GL_pass (nw_off rfl rfl rfl rfl rfl) rfl ?_
  refine GL_rd (v := .bool _) (wn_none rfl) rfl (rd_pickT rfl rfl rfl) ?_
  refine GL_nil ?_
  refine GW_true rfl ?_
  refine GW_seq ?_
  refine GW_region ?_
  refine GL_rd (v := .int _ _) (wn_none rfl) rfl (rd_assign rfl rfl) ?_
  refine GL_nil ?_
  refine GW_ret ?_
  have e : leafC s l b m = 15 := by rw [leafC, if_pos (by omega)]
  exact ⟨_, res1 Try.results49 (rv_tmp (v := .int _ _) rfl rfl), by rw [e], hp.mods⟩
 ·intro hb; (try simp only [decide_eq_true_eq, decide_eq_false_iff_not, Bool.not_eq_true', Bool.not_eq_false', Bool.not_eq_eq_eq_not, Bool.not_true, Bool.not_false, Int.not_lt, Int.not_le] at hb)
  refine GL_rd (wn_on rfl rfl rfl rfl) rfl (rd_field rfl rfl fa72_1 _ rfl) ?_
  refine GL_rd (wn_on rfl rfl rfl rfl) rfl (rd_load rfl rfl Try.underlying3 rfl ((cell_of_cells (hp.get 0 rfl) _).trans (txt32 ha _ _ _))) ?_
  refine GL_rd (wn_on rfl rfl rfl rfl) rfl (rd_bin rfl rfl rfl bo_gtr) ?_
  refine GL_rd (v := .bool _) (wn_none rfl) rfl (rd_pickF rfl rfl rfl) ?_
  refine GL_nil ?_
  refine GW_cond rfl (fun hb2 => ?_) (fun hb2 => ?_)
  ·(try simp only [decide_eq_true_eq, decide_eq_false_iff_not, Bool.not_eq_true', Bool.not_eq_false', Bool.not_eq_eq_eq_not, Bool.not_true, Bool.not_false, Int.not_lt, Int.not_le] at hb2)
   refine GW_seq ?_
   refine GW_region ?_
   refine GL_rd (v := .int _ _) (wn_none rfl) rfl (rd_assign rfl rfl) ?_
   refine GL_nil ?_
   refine GW_ret ?_
   have e : leafC s l b m = 15 := by rw [leafC, if_pos (by omega)]
   exact ⟨_, res1 Try.results49 (rv_tmp (v := .int _ _) rfl rfl), by rw [e], hp.mods⟩
  ·(try simp only [decide_eq_true_eq, decide_eq_false_iff_not, Bool.not_eq_true', Bool.not_eq_false', Bool.not_eq_eq_eq_not, Bool.not_true, Bool.not_false, Int.not_lt, Int.not_le] at hb2)
   refine GW_skip ?_
   refine GW_seq ?_
   refine GW_seq ?_
   refine GW_region ?_
   refine GL_rd (wn_none rfl) rfl (rd_field rfl rfl fa72_2 _ rfl) ?_
   refine GL_rd (v := .slice _ _ _) (wn_none rfl) rfl (rd_load rfl rfl Try.underlying57 rfl ((cell_of_cells (hp.get 0 rfl) _).trans (txt33 ha _ _ _))) ?_
   refine GL_rd (wn_none rfl) rfl (rd_len rfl rfl Try.underlying57) ?_
   refine GL_rd (wn_none rfl) rfl (rd_field rfl rfl fa72_1 _ rfl) ?_
   refine GL_rd (wn_none rfl) rfl (rd_load rfl rfl Try.underlying3 rfl ((cell_of_cells (hp.get 0 rfl) _).trans (txt32 ha _ _ _))) ?_
   refine GL_rd (wn_none rfl) rfl (rd_bin rfl rfl rfl (bo_add64 (by omega))) ?_
   refine GL_rd (wn_none rfl) rfl (rd_bin rfl rfl rfl (bo_quo64 (by omega) (by omega) (by omega))) ?_
   refine GL_rd (wn_none rfl) rfl (rd_bin rfl rfl rfl bo_neq) ?_
   refine GL_nil ?_
   refine GW_cond rfl (fun hb3 => ?_) (fun hb3 => ?_)
   ·(try simp only [decide_eq_true_eq, decide_eq_false_iff_not, Bool.not_eq_true', Bool.not_eq_false', Bool.not_eq_eq_eq_not, Bool.not_true, Bool.not_false, Int.not_lt, Int.not_le] at hb3)
    refine GW_seq ?_
    refine GW_region ?_
    refine GL_rd (v := .int _ _) (wn_none rfl) rfl (rd_assign rfl rfl) ?_
    refine GL_nil ?_
    refine GW_ret ?_
    have e : leafC s l b m = 1 := by rw [leafC, if_neg (by omega), if_pos (by omega)]
    exact ⟨_, res1 Try.results49 (rv_tmp (v := .int _ _) rfl rfl), by rw [e], hp.mods⟩
   ·(try simp only [decide_eq_true_eq, decide_eq_false_iff_not, Bool.not_eq_true', Bool.not_eq_false', Bool.not_eq_eq_eq_not, Bool.not_true, Bool.not_false, Int.not_lt, Int.not_le] at hb3)
    refine GW_skip ?_
    refine GW_seq ?_
    refine GW_seq ?_
    refine GW_region ?_
    refine GL_rd (wn_none rfl) rfl (rd_field rfl rfl fa72_3 _ rfl) ?_
    refine GL_rd (wn_none rfl) rfl (rd_load rfl rfl Try.underlying3 rfl ((cell_of_cells (hp.get 0 rfl) _).trans (txt34 ha _ _ _))) ?_
    refine GL_rd (wn_none rfl) rfl (rd_bin rfl rfl rfl bo_lss) ?_
    refine GL_rd (v := .bool _) (wn_none rfl) rfl (rd_move rfl rfl) ?_
    refine GL_split (t := 25) (b := _) rfl ?_ ?_
    ·intro hb4; (try simp only [decide_eq_true_eq, decide_eq_false_iff_not, Bool.not_eq_true', Bool.not_eq_false', Bool.not_eq_eq_eq_not, Bool.not_true, Bool.not_false, Int.not_lt, Int.not_le] at hb4)
     refine GL_pass (nw_off rfl rfl rfl rfl rfl) rfl ?_
     refine GL_pass (nw_off rfl rfl rfl rfl rfl) rfl ?_
     refine GL_pass (nw_off rfl rfl rfl rfl rfl) rfl ?_
     refine GL_rd (v := .bool _) (wn_none rfl) rfl (rd_pickT rfl rfl rfl) ?_
     refine GL_nil ?_
     refine GW_true rfl ?_
     refine GW_seq ?_
     refine GW_region ?_
     refine GL_rd (v := .int _ _) (wn_none rfl) rfl (rd_assign rfl rfl) ?_
     refine GL_nil ?_
     refine GW_ret ?_
     have e : leafC s l b m = 2 := by rw [leafC, if_neg (by omega), if_neg (by omega), if_pos (by omega)]
     exact ⟨_, res1 Try.results49 (rv_tmp (v := .int _ _) rfl rfl), by rw [e], hp.mods⟩
    ·intro hb4; (try simp only [decide_eq_true_eq, decide_eq_false_iff_not, Bool.not_eq_true', Bool.not_eq_false', Bool.not_eq_eq_eq_not, Bool.not_true, Bool.not_false, Int.not_lt, Int.not_le] at hb4)
     refine GL_rd (wn_on rfl rfl rfl rfl) rfl (rd_field rfl rfl fa72_3 _ rfl) ?_
     refine GL_rd (wn_on rfl rfl rfl rfl) rfl (rd_load rfl rfl Try.underlying3 rfl ((cell_of_cells (hp.get 0 rfl) _).trans (txt34 ha _ _ _))) ?_
     refine GL_rd (wn_on rfl rfl rfl rfl) rfl (rd_bin rfl rfl rfl bo_gtr) ?_
     refine GL_rd (v := .bool _) (wn_none rfl) rfl (rd_pickF rfl rfl rfl) ?_
     refine GL_nil ?_
     refine GW_cond rfl (fun hb5 => ?_) (fun hb5 => ?_)
     ·(try simp only [decide_eq_true_eq, decide_eq_false_iff_not, Bool.not_eq_true', Bool.not_eq_false', Bool.not_eq_eq_eq_not, Bool.not_true, Bool.not_false, Int.not_lt, Int.not_le] at hb5)
      refine GW_seq ?_
      refine GW_region ?_
      refine GL_rd (v := .int _ _) (wn_none rfl) rfl (rd_assign rfl rfl) ?_
      refine GL_nil ?_
      refine GW_ret ?_
      have e : leafC s l b m = 2 := by rw [leafC, if_neg (by omega), if_neg (by omega), if_pos (by omega)]
      exact ⟨_, res1 Try.results49 (rv_tmp (v := .int _ _) rfl rfl), by rw [e], hp.mods⟩
     ·(try simp only [decide_eq_true_eq, decide_eq_false_iff_not, Bool.not_eq_true', Bool.not_eq_false', Bool.not_eq_eq_eq_not, Bool.not_true, Bool.not_false, Int.not_lt, Int.not_le] at hb5)
      refine GW_skip ?_
      refine GW_seq ?_
      refine GW_seq ?_
      refine GW_region ?_
      refine GL_rd (v := .int _ _) (wn_none rfl) rfl (rd_assign rfl rfl) ?_
      refine GL_nil ?_
      refine GW_block ?_
      refine GW_loop ?_
      refine Lp_ind (α := Nat) (fun a_0 f_0 w' => match a_0 with | i => ∃ fz, f_0 = (upd (upd (upd fz 1 (.int .i64 m)) 2 (.pointer (some ⟨g, 0, none⟩))) 5 (.int .i64 (i : Int))) ∧ Hp w0 [] w' [cells g 72 (textC a s (.slice A n c) b)] ∧ (i ≤ n) ∧ ((l.take i).all (slotOk m) = true)) (fun a_0 => match a_0 with | i => n - i) ?_ 0 _ _ ?_
      ·rintro i f wz ⟨fz, rfl, hp, hi0, hall0⟩ ihL0
       refine Lp_round ?_
       refine GW_seq ?_
       refine GW_seq ?_
       refine GW_region ?_
       refine GL_rd (v := .int _ _) (wn_none rfl) rfl (rd_move rfl rfl) ?_
       refine GL_rd (wn_none rfl) rfl (rd_field rfl rfl fa72_2 _ rfl) ?_
       refine GL_rd (v := .slice _ _ _) (wn_none rfl) rfl (rd_load rfl rfl Try.underlying57 rfl ((cell_of_cells (hp.get 0 rfl) _).trans (txt33 ha _ _ _))) ?_
       refine GL_rd (wn_none rfl) rfl (rd_len rfl rfl Try.underlying57) ?_
       refine GL_rd (wn_none rfl) rfl (rd_bin rfl rfl rfl bo_lss) ?_
       refine GL_nil ?_
       refine GW_cond rfl (fun hb6 => ?_) (fun hb6 => ?_)
       ·(try simp only [decide_eq_true_eq, decide_eq_false_iff_not, Bool.not_eq_true', Bool.not_eq_false', Bool.not_eq_eq_eq_not, Bool.not_true, Bool.not_false, Int.not_lt, Int.not_le] at hb6)
        obtain ⟨y, hy⟩ : ∃ y, l[i]? = some y := ⟨_, List.getElem?_eq_getElem (by omega)⟩
        obtain ⟨gA, bA, rfl⟩ := hs.addr (by rw [List.length_map]; omega)
        refine GW_skip ?_
        refine GW_seq ?_
        refine GW_block ?_
        refine GW_seq ?_
        refine GW_region ?_
        refine GL_rd (wn_none rfl) rfl (rd_field rfl rfl fa72_2 _ rfl) ?_
        refine GL_rd (v := .slice _ _ _) (wn_none rfl) rfl (rd_load rfl rfl Try.underlying57 rfl ((cell_of_cells (hp.get 0 rfl) _).trans (txt33 ha _ _ _))) ?_
        refine GL_rd (v := .int _ _) (wn_none rfl) rfl (rd_move rfl rfl) ?_
        refine GL_rd (wn_none rfl) rfl (rd_indexS (j := i) rfl rfl rfl Try.underlying57 ts3 rfl (by omega) _ rfl) ?_
        refine GL_rd (wn_none rfl) rfl (rd_load rfl rfl Try.underlying3 rfl ((hs.keep hp.mod).get (i * 1) _ (by rw [Nat.mul_one, List.getElem?_map, hy]; rfl))) ?_
        refine GL_rd (wn_none rfl) rfl (rd_bin rfl rfl rfl bo_lss) ?_
        refine GL_rd (v := .bool _) (wn_none rfl) rfl (rd_move rfl rfl) ?_
        refine GL_split (t := 43) (b := _) rfl ?_ ?_
        ·intro hb7; (try simp only [decide_eq_true_eq, decide_eq_false_iff_not, Bool.not_eq_true', Bool.not_eq_false', Bool.not_eq_eq_eq_not, Bool.not_true, Bool.not_false, Int.not_lt, Int.not_le] at hb7)
         refine GL_pass (nw_off rfl rfl rfl rfl rfl) rfl ?_
         refine GL_pass (nw_off rfl rfl rfl rfl rfl) rfl ?_
         refine GL_pass (nw_off rfl rfl rfl rfl rfl) rfl ?_
         refine GL_pass (nw_off rfl rfl rfl rfl rfl) rfl ?_
         refine GL_pass (nw_off rfl rfl rfl rfl rfl) rfl ?_
         refine GL_pass (nw_off rfl rfl rfl rfl rfl) rfl ?_
         refine GL_rd (v := .bool _) (wn_none rfl) rfl (rd_pickT rfl rfl rfl) ?_
         refine GL_rd (v := .bool _) (wn_none rfl) rfl (rd_move rfl rfl) ?_
         refine GL_pass (nw_off rfl rfl rfl rfl rfl) rfl ?_
         refine GL_pass (nw_off rfl rfl rfl rfl rfl) rfl ?_
         refine GL_pass (nw_off rfl rfl rfl rfl rfl) rfl ?_
         refine GL_pass (nw_off rfl rfl rfl rfl rfl) rfl ?_
         refine GL_pass (nw_off rfl rfl rfl rfl rfl) rfl ?_
         refine GL_pass (nw_off rfl rfl rfl rfl rfl) rfl ?_
         refine GL_pass (nw_off rfl rfl rfl rfl rfl) rfl ?_
         refine GL_rd (v := .bool _) (wn_none rfl) rfl (rd_pickT rfl rfl rfl) ?_
         refine GL_nil ?_
         refine GW_true rfl ?_
         refine GW_seq ?_
         refine GW_region ?_
         refine GL_rd (v := .int _ _) (wn_none rfl) rfl (rd_assign rfl rfl) ?_
         refine GL_nil ?_
         refine GW_ret ?_
         have e : leafC s l b m = 2 := by rw [leafC, if_neg (by omega), if_neg (by omega), if_neg (by omega), all_no hy (by simp only [slotOk, decide_eq_false_iff_not]; omega)]; rfl
         exact ⟨_, res1 Try.results49 (rv_tmp (v := .int _ _) rfl rfl), by rw [e], hp.mods⟩
        ·intro hb7; (try simp only [decide_eq_true_eq, decide_eq_false_iff_not, Bool.not_eq_true', Bool.not_eq_false', Bool.not_eq_eq_eq_not, Bool.not_true, Bool.not_false, Int.not_lt, Int.not_le] at hb7)
         refine GL_rd (wn_on rfl rfl rfl rfl) rfl (rd_field rfl rfl fa72_2 _ rfl) ?_
         refine GL_rd (v := .slice _ _ _) (wn_on rfl rfl rfl rfl) rfl (rd_load rfl rfl Try.underlying57 rfl ((cell_of_cells (hp.get 0 rfl) _).trans (txt33 ha _ _ _))) ?_
         refine GL_rd (v := .int _ _) (wn_on rfl rfl rfl rfl) rfl (rd_move rfl rfl) ?_
         refine GL_rd (wn_on rfl rfl rfl rfl) rfl (rd_indexS (j := i) rfl rfl rfl Try.underlying57 ts3 rfl (by omega) _ rfl) ?_
         refine GL_rd (wn_on rfl rfl rfl rfl) rfl (rd_load rfl rfl Try.underlying3 rfl ((hs.keep hp.mod).get (i * 1) _ (by rw [Nat.mul_one, List.getElem?_map, hy]; rfl))) ?_
         refine GL_rd (wn_on rfl rfl rfl rfl) rfl (rd_bin rfl rfl rfl bo_gtr) ?_
         refine GL_rd (v := .bool _) (wn_none rfl) rfl (rd_pickF rfl rfl rfl) ?_
         refine GL_rd (v := .bool _) (wn_none rfl) rfl (rd_move rfl rfl) ?_
         refine GL_split (t := 51) (b := _) rfl ?_ ?_
         ·intro hb8; (try simp only [decide_eq_true_eq, decide_eq_false_iff_not, Bool.not_eq_true', Bool.not_eq_false', Bool.not_eq_eq_eq_not, Bool.not_true, Bool.not_false, Int.not_lt, Int.not_le] at hb8)
          refine GL_pass (nw_off rfl rfl rfl rfl rfl) rfl ?_
          refine GL_pass (nw_off rfl rfl rfl rfl rfl) rfl ?_
          refine GL_pass (nw_off rfl rfl rfl rfl rfl) rfl ?_
          refine GL_pass (nw_off rfl rfl rfl rfl rfl) rfl ?_
          refine GL_pass (nw_off rfl rfl rfl rfl rfl) rfl ?_
          refine GL_pass (nw_off rfl rfl rfl rfl rfl) rfl ?_
          refine GL_pass (nw_off rfl rfl rfl rfl rfl) rfl ?_
          refine GL_rd (v := .bool _) (wn_none rfl) rfl (rd_pickT rfl rfl rfl) ?_
          refine GL_nil ?_
          refine GW_true rfl ?_
          refine GW_seq ?_
          refine GW_region ?_
          refine GL_rd (v := .int _ _) (wn_none rfl) rfl (rd_assign rfl rfl) ?_
          refine GL_nil ?_
          refine GW_ret ?_
          have e : leafC s l b m = 2 := by rw [leafC, if_neg (by omega), if_neg (by omega), if_neg (by omega), all_no hy (by simp only [slotOk, decide_eq_false_iff_not]; omega)]; rfl
          exact ⟨_, res1 Try.results49 (rv_tmp (v := .int _ _) rfl rfl), by rw [e], hp.mods⟩
         ·intro hb8; (try simp only [decide_eq_true_eq, decide_eq_false_iff_not, Bool.not_eq_true', Bool.not_eq_false', Bool.not_eq_eq_eq_not, Bool.not_true, Bool.not_false, Int.not_lt, Int.not_le] at hb8)
          refine GL_rd (wn_on rfl rfl rfl rfl) rfl (rd_field rfl rfl fa72_2 _ rfl) ?_
          refine GL_rd (v := .slice _ _ _) (wn_on rfl rfl rfl rfl) rfl (rd_load rfl rfl Try.underlying57 rfl ((cell_of_cells (hp.get 0 rfl) _).trans (txt33 ha _ _ _))) ?_
          refine GL_rd (v := .int _ _) (wn_on rfl rfl rfl rfl) rfl (rd_move rfl rfl) ?_
          refine GL_rd (wn_on rfl rfl rfl rfl) rfl (rd_indexS (j := i) rfl rfl rfl Try.underlying57 ts3 rfl (by omega) _ rfl) ?_
          refine GL_rd (wn_on rfl rfl rfl rfl) rfl (rd_load rfl rfl Try.underlying3 rfl ((hs.keep hp.mod).get (i * 1) _ (by rw [Nat.mul_one, List.getElem?_map, hy]; rfl))) ?_
          refine GL_rd (v := .int _ _) (wn_on rfl rfl rfl rfl) rfl (rd_move rfl rfl) ?_
          refine GL_rd (wn_on rfl rfl rfl rfl) rfl (rd_bin rfl rfl rfl bo_geq) ?_
          refine GL_rd (v := .bool _) (wn_none rfl) rfl (rd_pickF rfl rfl rfl) ?_
          refine GL_nil ?_
          refine GW_cond rfl (fun hb9 => ?_) (fun hb9 => ?_)
          ·(try simp only [decide_eq_true_eq, decide_eq_false_iff_not, Bool.not_eq_true', Bool.not_eq_false', Bool.not_eq_eq_eq_not, Bool.not_true, Bool.not_false, Int.not_lt, Int.not_le] at hb9)
           refine GW_seq ?_
           refine GW_region ?_
           refine GL_rd (v := .int _ _) (wn_none rfl) rfl (rd_assign rfl rfl) ?_
           refine GL_nil ?_
           refine GW_ret ?_
           have e : leafC s l b m = 2 := by rw [leafC, if_neg (by omega), if_neg (by omega), if_neg (by omega), all_no hy (by simp only [slotOk, decide_eq_false_iff_not]; omega)]; rfl
           exact ⟨_, res1 Try.results49 (rv_tmp (v := .int _ _) rfl rfl), by rw [e], hp.mods⟩
          ·(try simp only [decide_eq_true_eq, decide_eq_false_iff_not, Bool.not_eq_true', Bool.not_eq_false', Bool.not_eq_eq_eq_not, Bool.not_true, Bool.not_false, Int.not_lt, Int.not_le] at hb9)
           refine GW_skip ?_
           refine GW_region ?_
           refine GL_rd (v := .int _ _) (wn_none rfl) rfl (rd_move rfl rfl) ?_
           refine GL_rd (wn_none rfl) rfl (rd_bin rfl rfl rfl (bo_add64 (by omega))) ?_
           refine GL_rd (v := .int _ _) (wn_none rfl) rfl (rd_assign rfl rfl) ?_
           refine GL_nil ?_
           exact ihL0 (i + 1) _ _ (by simp only []; omega) ⟨_, slots3 rfl rfl rfl, hp, (by omega), all_take hall0 hy (by simp only [slotOk, decide_eq_true_eq]; omega)⟩
       ·(try simp only [decide_eq_true_eq, decide_eq_false_iff_not, Bool.not_eq_true', Bool.not_eq_false', Bool.not_eq_eq_eq_not, Bool.not_true, Bool.not_false, Int.not_lt, Int.not_le] at hb6)
        have hall : l.all (slotOk m) = true := by rw [List.take_of_length_le (by omega)] at hall0; exact hall0
        refine GW_exit ?_
        refine GW_seq ?_
        refine GW_region ?_
        refine GL_rd (v := .int _ _) (wn_none rfl) rfl (rd_assign rfl rfl) ?_
        refine GL_nil ?_
        refine GW_ret ?_
        have e : leafC s l b m = 0 := by rw [leafC, if_neg (by omega), if_neg (by omega), if_neg (by omega), if_pos hall]
        exact ⟨_, res1 Try.results49 (rv_tmp (v := .int _ _) rfl rfl), by rw [e], hp.mods⟩
      ·refine ⟨_, slots3 rfl rfl rfl, hp, Nat.zero_le _, rfl⟩

theorem ref_leafSame (a1 : List UInt8) (s1 : Int) (sv1 : Value) (b1 : Int) (n1 : Nat) (l1 : List Int) (a2 : List UInt8) (s2 : Int) (sv2 : Value) (b2 : Int) (n2 : Nat) (l2 : List Int) (w0 : World) (ha1 : a1.length = 32) (hs1 : Sl w0 sv1 1 n1 (l1.map (Value.int .i64))) (hsz1 : -9223372036854775808 ≤ s1 ∧ s1 ≤ 9223372036854775807) (ha2 : a2.length = 32) (hs2 : Sl w0 sv2 1 n2 (l2.map (Value.int .i64))) (hsz2 : -9223372036854775808 ≤ s2 ∧ s2 ≤ 9223372036854775807) : Does Try.prog 51 #[.agg ⟨textC a1 s1 sv1 b1⟩, .agg ⟨textC a2 s2 sv2 b2⟩] w0 fun v w' => v = .bool (sameT a1 s1 b1 l1 a2 s2 b2 l2) ∧ Hp w0 [] w' [] := by
 obtain ⟨A1, c1, rfl⟩ := sl_shape hs1
 have hnl1 : l1.length = n1 := by have := hs1.len; simpa using this
 have hmle1 := hs1.le
 obtain ⟨A2, c2, rfl⟩ := sl_shape hs2
 have hnl2 : l2.length = n2 := by have := hs2.len; simpa using this
 have hmle2 := hs2.le
 refine does_of (l := [.agg ⟨textC a1 s1 (.slice A1 n1 c1) b1⟩, .agg ⟨textC a2 s2 (.slice A2 n2 c2) b2⟩]) Try.func51 (by kernel_rfl) rfl Try.ntmps51 rfl rfl ?_
 have hp := Hp.refl w0 []
 refine GW_seq ?_
 refine GW_region ?_
 refine GL_box (wn_none rfl) rfl rfl rfl rfl hp ?_
 intro g w hp
 refine GL_box (wn_none rfl) rfl rfl rfl rfl hp ?_
 intro g2 w hp
 refine GL_rd (v := .bool _) (wn_none rfl) rfl (rd_assign rfl rfl) ?_
 refine GL_nil ?_
 refine GW_seq ?_
 refine GW_seq ?_
 refine GW_region ?_
 refine GL_rd (wn_none rfl) rfl (rd_field rfl rfl fa72_0 _ rfl) ?_
 refine GL_rd (wn_none rfl) rfl (rd_loadN (L := bys a1) rfl rfl Try.underlying70 rfl ts70 (by rw [bys_length, ha1]) (fun j u hj => by rw [Nat.zero_add]; exact (cell_of_cells (hp.get 1 rfl) j).trans (txtA ha1 _ _ _ hj))) ?_
 refine GL_rd (wn_none rfl) rfl (rd_field rfl rfl fa72_0 _ rfl) ?_
 refine GL_rd (wn_none rfl) rfl (rd_loadN (L := bys a2) rfl rfl Try.underlying70 rfl ts70 (by rw [bys_length, ha2]) (fun j u hj => by rw [Nat.zero_add]; exact (cell_of_cells (hp.get 0 rfl) j).trans (txtA ha2 _ _ _ hj))) ?_
 refine GL_rd (wn_none rfl) rfl (rd_bin rfl rfl rfl (bo_arrB Try.underlying70 Try.underlying5 ts5 (by kernel_rfl) ha1 ha2).2) ?_
 refine GL_rd (v := .bool _) (wn_none rfl) rfl (rd_move rfl rfl) ?_
 refine GL_split (t := 11) (b := _) rfl ?_ ?_
 ·intro hb; (try simp only [decide_eq_true_eq, decide_eq_false_iff_not, Bool.not_eq_true', Bool.not_eq_false', Bool.not_eq_eq_eq_not, Bool.not_true, Bool.not_false, Int.not_lt, Int.not_le] at hb)
  have hno := same_no (a1 := a1) (a2 := a2) (s1 := s1) (s2 := s2) (b1 := b1) (b2 := b2) (l1 := l1) (l2 := l2) (fun hh => hb hh.1)
  refine GL_pass (nw_off rfl rfl rfl rfl rfl) rfl ?_
  refine GL_pass (nw_off rfl rfl rfl rfl rfl) rfl ?_
  refine GL_pass (nw_off rfl rfl rfl rfl rfl) rfl ?_
  refine GL_pass (nw_off rfl rfl rfl rfl rfl) rfl ?_
  refine GL_pass (nw_off rfl rfl rfl rfl rfl) rfl ?_
  refine GL_rd (v := .bool _) (wn_none rfl) rfl (rd_pickT rfl rfl rfl) ?_
  refine GL_rd (v := .bool _) (wn_none rfl) rfl (rd_move rfl rfl) ?_
  refine GL_pass (nw_off rfl rfl rfl rfl rfl) rfl ?_
  refine GL_pass (nw_off rfl rfl rfl rfl rfl) rfl ?_
  refine GL_pass (nw_off rfl rfl rfl rfl rfl) rfl ?_
  refine GL_pass (nw_off rfl rfl rfl rfl rfl) rfl ?_
  refine GL_pass (nw_off rfl rfl rfl rfl rfl) rfl ?_
  refine GL_rd (v := .bool _) (wn_none rfl) rfl (rd_pickT rfl rfl rfl) ?_
  refine GL_rd (v := .bool _) (wn_none rfl) rfl (rd_move rfl rfl) ?_
  refine GL_pass (nw_off rfl rfl rfl rfl rfl) rfl ?_
  refine GL_pass (nw_off rfl rfl rfl rfl rfl) rfl ?_
  refine GL_pass (nw_off rfl rfl rfl rfl rfl) rfl ?_
  refine GL_pass (nw_off rfl rfl rfl rfl rfl) rfl ?_
  refine GL_pass (nw_off rfl rfl rfl rfl rfl) rfl ?_
  refine GL_pass (nw_off rfl rfl rfl rfl rfl) rfl ?_
  refine GL_pass (nw_off rfl rfl rfl rfl rfl) rfl ?_
  refine GL_rd (v := .bool _) (wn_none rfl) rfl (rd_pickT rfl rfl rfl) ?_
  refine GL_nil ?_
  refine GW_true rfl ?_
  refine GW_seq ?_
  refine GW_region ?_
  refine GL_rd (v := .bool _) (wn_none rfl) rfl (rd_assign rfl rfl) ?_
  refine GL_nil ?_
  refine GW_ret ?_
  exact ⟨_, res1 Try.results51 (rv_tmp (v := .bool _) rfl rfl), by rw [hno], hp.mods⟩
 ·intro hb; (try simp only [decide_eq_true_eq, decide_eq_false_iff_not, Bool.not_eq_true', Bool.not_eq_false', Bool.not_eq_eq_eq_not, Bool.not_true, Bool.not_false, Int.not_lt, Int.not_le] at hb)
  have q1 := hb
  refine GL_rd (wn_on rfl rfl rfl rfl) rfl (rd_field rfl rfl fa72_1 _ rfl) ?_
  refine GL_rd (wn_on rfl rfl rfl rfl) rfl (rd_load rfl rfl Try.underlying3 rfl ((cell_of_cells (hp.get 1 rfl) _).trans (txt32 ha1 _ _ _))) ?_
  refine GL_rd (wn_on rfl rfl rfl rfl) rfl (rd_field rfl rfl fa72_1 _ rfl) ?_
  refine GL_rd (wn_on rfl rfl rfl rfl) rfl (rd_load rfl rfl Try.underlying3 rfl ((cell_of_cells (hp.get 0 rfl) _).trans (txt32 ha2 _ _ _))) ?_
  refine GL_rd (wn_on rfl rfl rfl rfl) rfl (rd_bin rfl rfl rfl bo_neq) ?_
  refine GL_rd (v := .bool _) (wn_none rfl) rfl (rd_pickF rfl rfl rfl) ?_
  refine GL_rd (v := .bool _) (wn_none rfl) rfl (rd_move rfl rfl) ?_
  refine GL_split (t := 18) (b := _) rfl ?_ ?_
  ·intro hb2; (try simp only [decide_eq_true_eq, decide_eq_false_iff_not, Bool.not_eq_true', Bool.not_eq_false', Bool.not_eq_eq_eq_not, Bool.not_true, Bool.not_false, Int.not_lt, Int.not_le] at hb2)
   have hno := same_no (a1 := a1) (a2 := a2) (s1 := s1) (s2 := s2) (b1 := b1) (b2 := b2) (l1 := l1) (l2 := l2) (fun hh => hb2 hh.2.1)
   refine GL_pass (nw_off rfl rfl rfl rfl rfl) rfl ?_
   refine GL_pass (nw_off rfl rfl rfl rfl rfl) rfl ?_
   refine GL_pass (nw_off rfl rfl rfl rfl rfl) rfl ?_
   refine GL_pass (nw_off rfl rfl rfl rfl rfl) rfl ?_
   refine GL_pass (nw_off rfl rfl rfl rfl rfl) rfl ?_
   refine GL_rd (v := .bool _) (wn_none rfl) rfl (rd_pickT rfl rfl rfl) ?_
   refine GL_rd (v := .bool _) (wn_none rfl) rfl (rd_move rfl rfl) ?_
   refine GL_pass (nw_off rfl rfl rfl rfl rfl) rfl ?_
   refine GL_pass (nw_off rfl rfl rfl rfl rfl) rfl ?_
   refine GL_pass (nw_off rfl rfl rfl rfl rfl) rfl ?_
   refine GL_pass (nw_off rfl rfl rfl rfl rfl) rfl ?_
   refine GL_pass (nw_off rfl rfl rfl rfl rfl) rfl ?_
   refine GL_pass (nw_off rfl rfl rfl rfl rfl) rfl ?_
   refine GL_pass (nw_off rfl rfl rfl rfl rfl) rfl ?_
   refine GL_rd (v := .bool _) (wn_none rfl) rfl (rd_pickT rfl rfl rfl) ?_
   refine GL_nil ?_
   refine GW_true rfl ?_
   refine GW_seq ?_
   refine GW_region ?_
   refine GL_rd (v := .bool _) (wn_none rfl) rfl (rd_assign rfl rfl) ?_
   refine GL_nil ?_
   refine GW_ret ?_
   exact ⟨_, res1 Try.results51 (rv_tmp (v := .bool _) rfl rfl), by rw [hno], hp.mods⟩
  ·intro hb2; (try simp only [decide_eq_true_eq, decide_eq_false_iff_not, Bool.not_eq_true', Bool.not_eq_false', Bool.not_eq_eq_eq_not, Bool.not_true, Bool.not_false, Int.not_lt, Int.not_le] at hb2)
   have q2 := hb2
   refine GL_rd (wn_on rfl rfl rfl rfl) rfl (rd_field rfl rfl fa72_3 _ rfl) ?_
   refine GL_rd (wn_on rfl rfl rfl rfl) rfl (rd_load rfl rfl Try.underlying3 rfl ((cell_of_cells (hp.get 1 rfl) _).trans (txt34 ha1 _ _ _))) ?_
   refine GL_rd (wn_on rfl rfl rfl rfl) rfl (rd_field rfl rfl fa72_3 _ rfl) ?_
   refine GL_rd (wn_on rfl rfl rfl rfl) rfl (rd_load rfl rfl Try.underlying3 rfl ((cell_of_cells (hp.get 0 rfl) _).trans (txt34 ha2 _ _ _))) ?_
   refine GL_rd (wn_on rfl rfl rfl rfl) rfl (rd_bin rfl rfl rfl bo_neq) ?_
   refine GL_rd (v := .bool _) (wn_none rfl) rfl (rd_pickF rfl rfl rfl) ?_
   refine GL_rd (v := .bool _) (wn_none rfl) rfl (rd_move rfl rfl) ?_
   refine GL_split (t := 25) (b := _) rfl ?_ ?_
   ·intro hb3; (try simp only [decide_eq_true_eq, decide_eq_false_iff_not, Bool.not_eq_true', Bool.not_eq_false', Bool.not_eq_eq_eq_not, Bool.not_true, Bool.not_false, Int.not_lt, Int.not_le] at hb3)
    have hno := same_no (a1 := a1) (a2 := a2) (s1 := s1) (s2 := s2) (b1 := b1) (b2 := b2) (l1 := l1) (l2 := l2) (fun hh => hb3 hh.2.2.1)
    refine GL_pass (nw_off rfl rfl rfl rfl rfl) rfl ?_
    refine GL_pass (nw_off rfl rfl rfl rfl rfl) rfl ?_
    refine GL_pass (nw_off rfl rfl rfl rfl rfl) rfl ?_
    refine GL_pass (nw_off rfl rfl rfl rfl rfl) rfl ?_
    refine GL_pass (nw_off rfl rfl rfl rfl rfl) rfl ?_
    refine GL_pass (nw_off rfl rfl rfl rfl rfl) rfl ?_
    refine GL_pass (nw_off rfl rfl rfl rfl rfl) rfl ?_
    refine GL_rd (v := .bool _) (wn_none rfl) rfl (rd_pickT rfl rfl rfl) ?_
    refine GL_nil ?_
    refine GW_true rfl ?_
    refine GW_seq ?_
    refine GW_region ?_
    refine GL_rd (v := .bool _) (wn_none rfl) rfl (rd_assign rfl rfl) ?_
    refine GL_nil ?_
    refine GW_ret ?_
    exact ⟨_, res1 Try.results51 (rv_tmp (v := .bool _) rfl rfl), by rw [hno], hp.mods⟩
   ·intro hb3; (try simp only [decide_eq_true_eq, decide_eq_false_iff_not, Bool.not_eq_true', Bool.not_eq_false', Bool.not_eq_eq_eq_not, Bool.not_true, Bool.not_false, Int.not_lt, Int.not_le] at hb3)
    have q3 := hb3
    refine GL_rd (wn_on rfl rfl rfl rfl) rfl (rd_field rfl rfl fa72_2 _ rfl) ?_
    refine GL_rd (v := .slice _ _ _) (wn_on rfl rfl rfl rfl) rfl (rd_load rfl rfl Try.underlying57 rfl ((cell_of_cells (hp.get 1 rfl) _).trans (txt33 ha1 _ _ _))) ?_
    refine GL_rd (wn_on rfl rfl rfl rfl) rfl (rd_len rfl rfl Try.underlying57) ?_
    refine GL_rd (wn_on rfl rfl rfl rfl) rfl (rd_field rfl rfl fa72_2 _ rfl) ?_
    refine GL_rd (v := .slice _ _ _) (wn_on rfl rfl rfl rfl) rfl (rd_load rfl rfl Try.underlying57 rfl ((cell_of_cells (hp.get 0 rfl) _).trans (txt33 ha2 _ _ _))) ?_
    refine GL_rd (wn_on rfl rfl rfl rfl) rfl (rd_len rfl rfl Try.underlying57) ?_
    refine GL_rd (wn_on rfl rfl rfl rfl) rfl (rd_bin rfl rfl rfl bo_neq) ?_
    refine GL_rd (v := .bool _) (wn_none rfl) rfl (rd_pickF rfl rfl rfl) ?_
    refine GL_nil ?_
    refine GW_cond rfl (fun hb4 => ?_) (fun hb4 => ?_)
    ·(try simp only [decide_eq_true_eq, decide_eq_false_iff_not, Bool.not_eq_true', Bool.not_eq_false', Bool.not_eq_eq_eq_not, Bool.not_true, Bool.not_false, Int.not_lt, Int.not_le] at hb4)
     have hno := same_no (a1 := a1) (a2 := a2) (s1 := s1) (s2 := s2) (b1 := b1) (b2 := b2) (l1 := l1) (l2 := l2) (fun hh => by have := congrArg List.length hh.2.2.2; omega)
     refine GW_seq ?_
     refine GW_region ?_
     refine GL_rd (v := .bool _) (wn_none rfl) rfl (rd_assign rfl rfl) ?_
     refine GL_nil ?_
     refine GW_ret ?_
     exact ⟨_, res1 Try.results51 (rv_tmp (v := .bool _) rfl rfl), by rw [hno], hp.mods⟩
    ·(try simp only [decide_eq_true_eq, decide_eq_false_iff_not, Bool.not_eq_true', Bool.not_eq_false', Bool.not_eq_eq_eq_not, Bool.not_true, Bool.not_false, Int.not_lt, Int.not_le] at hb4)
     have q4 : n1 = n2 := by omega
     refine GW_skip ?_
     refine GW_seq ?_
     refine GW_seq ?_
     refine GW_region ?_
     refine GL_rd (v := .int _ _) (wn_none rfl) rfl (rd_assign rfl rfl) ?_
     refine GL_nil ?_
     refine GW_block ?_
     refine GW_loop ?_
     refine Lp_ind (α := Nat) (fun a_0 f_0 w' => match a_0 with | i => ∃ fz, f_0 = (upd (upd (upd fz 2 (.pointer (some ⟨g, 0, none⟩))) 3 (.pointer (some ⟨g2, 0, none⟩))) 5 (.int .i64 (i : Int))) ∧ Hp w0 [] w' [cells g2 72 (textC a2 s2 (.slice A2 n2 c2) b2), cells g 72 (textC a1 s1 (.slice A1 n1 c1) b1)] ∧ (i ≤ n1) ∧ (l1.take i = l2.take i)) (fun a_0 => match a_0 with | i => n1 - i) ?_ 0 _ _ ?_
     ·rintro i f wz ⟨fz, rfl, hp, hi0, htk⟩ ihL0
      refine Lp_round ?_
      refine GW_seq ?_
      refine GW_seq ?_
      refine GW_region ?_
      refine GL_rd (v := .int _ _) (wn_none rfl) rfl (rd_move rfl rfl) ?_
      refine GL_rd (wn_none rfl) rfl (rd_field rfl rfl fa72_2 _ rfl) ?_
      refine GL_rd (v := .slice _ _ _) (wn_none rfl) rfl (rd_load rfl rfl Try.underlying57 rfl ((cell_of_cells (hp.get 1 rfl) _).trans (txt33 ha1 _ _ _))) ?_
      refine GL_rd (wn_none rfl) rfl (rd_len rfl rfl Try.underlying57) ?_
      refine GL_rd (wn_none rfl) rfl (rd_bin rfl rfl rfl bo_lss) ?_
      refine GL_nil ?_
      refine GW_cond rfl (fun hb5 => ?_) (fun hb5 => ?_)
      ·(try simp only [decide_eq_true_eq, decide_eq_false_iff_not, Bool.not_eq_true', Bool.not_eq_false', Bool.not_eq_eq_eq_not, Bool.not_true, Bool.not_false, Int.not_lt, Int.not_le] at hb5)
       obtain ⟨y, hy⟩ : ∃ y, l1[i]? = some y := ⟨_, List.getElem?_eq_getElem (by omega)⟩
       obtain ⟨z, hz⟩ : ∃ z, l2[i]? = some z := ⟨_, List.getElem?_eq_getElem (by omega)⟩
       obtain ⟨gA, bA, rfl⟩ := hs1.addr (by rw [List.length_map]; omega)
       obtain ⟨gB, bB, rfl⟩ := hs2.addr (by rw [List.length_map]; omega)
       refine GW_skip ?_
       refine GW_seq ?_
       refine GW_block ?_
       refine GW_seq ?_
       refine GW_drawnK 11 (.one 0 true (.one 1 true (.one 2 true (.one 3 true (.one 4 true (.one 5 true (.one 6 true (.one 7 true (.one 8 true (.one 9 true (.one 10 true .nil))))))))))) mixed (by kernel_rfl) hp (fun _ h => h) fun w hp => ?_
       have hpS := hp
       refine GO_rd rfl (wn_none rfl) rfl hpS (fun w hp => (rd_field rfl rfl fa72_2 _ rfl)) ?_
       refine GO_rd (v := .slice _ _ _) rfl (wn_none rfl) rfl hpS (fun w hp => (rd_load rfl rfl Try.underlying57 rfl ((cell_of_cells (hp.get 1 rfl) _).trans (txt33 ha1 _ _ _)))) ?_
       refine GO_rd (v := .int _ _) rfl (wn_none rfl) rfl hpS (fun w hp => (rd_move rfl rfl)) ?_
       refine GO_rd rfl (wn_none rfl) rfl hpS (fun w hp => (rd_indexS (j := i) rfl rfl rfl Try.underlying57 ts3 rfl (by omega) _ rfl)) ?_
       refine GO_rd rfl (wn_none rfl) rfl hpS (fun w hp => (rd_load rfl rfl Try.underlying3 rfl ((hs1.keep hp.mod).get (i * 1) _ (by rw [Nat.mul_one, List.getElem?_map, hy]; rfl)))) ?_
       refine GO_rd rfl (wn_none rfl) rfl hpS (fun w hp => (rd_field rfl rfl fa72_2 _ rfl)) ?_
       refine GO_rd (v := .slice _ _ _) rfl (wn_none rfl) rfl hpS (fun w hp => (rd_load rfl rfl Try.underlying57 rfl ((cell_of_cells (hp.get 0 rfl) _).trans (txt33 ha2 _ _ _)))) ?_
       refine GO_rd (v := .int _ _) rfl (wn_none rfl) rfl hpS (fun w hp => (rd_move rfl rfl)) ?_
       refine GO_rd rfl (wn_none rfl) rfl hpS (fun w hp => (rd_indexS (j := i) rfl rfl rfl Try.underlying57 ts3 rfl (by omega) _ rfl)) ?_
       refine GO_rd rfl (wn_none rfl) rfl hpS (fun w hp => (rd_load rfl rfl Try.underlying3 rfl ((hs2.keep hp.mod).get (i * 1) _ (by rw [Nat.mul_one, List.getElem?_map, hz]; rfl)))) ?_
       refine GO_rd rfl (wn_none rfl) rfl hpS (fun w hp => (rd_bin rfl rfl rfl bo_neq)) ?_
       refine GO_nil ?_
       refine GW_cond rfl (fun hb6 => ?_) (fun hb6 => ?_)
       ·(try simp only [decide_eq_true_eq, decide_eq_false_iff_not, Bool.not_eq_true', Bool.not_eq_false', Bool.not_eq_eq_eq_not, Bool.not_true, Bool.not_false, Int.not_lt, Int.not_le] at hb6)
        have hno := same_no (a1 := a1) (a2 := a2) (s1 := s1) (s2 := s2) (b1 := b1) (b2 := b2) (l1 := l1) (l2 := l2) (fun hh => hb6 (by rw [hh.2.2.2, hz] at hy; injection hy with hy; exact hy.symm))
        refine GW_seq ?_
        refine GW_region ?_
        refine GL_rd (v := .bool _) (wn_none rfl) rfl (rd_assign rfl rfl) ?_
        refine GL_nil ?_
        refine GW_ret ?_
        exact ⟨_, res1 Try.results51 (rv_tmp (v := .bool _) rfl rfl), by rw [hno], hp.mods⟩
       ·(try simp only [decide_eq_true_eq, decide_eq_false_iff_not, Bool.not_eq_true', Bool.not_eq_false', Bool.not_eq_eq_eq_not, Bool.not_true, Bool.not_false, Int.not_lt, Int.not_le] at hb6)
        obtain rfl : y = z := hb6
        refine GW_skip ?_
        refine GW_region ?_
        refine GL_rd (v := .int _ _) (wn_none rfl) rfl (rd_move rfl rfl) ?_
        refine GL_rd (wn_none rfl) rfl (rd_bin rfl rfl rfl (bo_add64 (by omega))) ?_
        refine GL_rd (v := .int _ _) (wn_none rfl) rfl (rd_assign rfl rfl) ?_
        refine GL_nil ?_
        exact ihL0 (i + 1) _ _ (by simp only []; omega) ⟨_, slots3 rfl rfl rfl, hp, (by omega), take_same htk hy hz⟩
      ·(try simp only [decide_eq_true_eq, decide_eq_false_iff_not, Bool.not_eq_true', Bool.not_eq_false', Bool.not_eq_eq_eq_not, Bool.not_true, Bool.not_false, Int.not_lt, Int.not_le] at hb5)
       have hl : l1 = l2 := by rw [List.take_of_length_le (by omega), List.take_of_length_le (by omega)] at htk; exact htk
       refine GW_exit ?_
       refine GW_seq ?_
       refine GW_region ?_
       refine GL_rd (v := .bool _) (wn_none rfl) rfl (rd_assign rfl rfl) ?_
       refine GL_nil ?_
       refine GW_ret ?_
       exact ⟨_, res1 Try.results51 (rv_tmp (v := .bool _) rfl rfl), by rw [same_yes ⟨q1, q2, q3, hl⟩], hp.mods⟩
     ·refine ⟨_, slots3 rfl rfl rfl, hp, Nat.zero_le _, rfl⟩

theorem leaf_Copy (a : List UInt8) (s : Int) (sv : Value) (b : Int) (n : Nat) (l : List Int) (w0 : World) (ha : a.length = 32) (hs : Sl w0 sv 1 n (l.map (Value.int .i64))) (hsz : -9223372036854775808 ≤ s ∧ s ≤ 9223372036854775807) (hn : n ≤ 1000000) : Does Try.prog 52 #[.agg ⟨textC a s sv b⟩] w0 fun v w' => ∃ g, v = .agg ⟨textC a s (.slice (some ⟨g, 0, none⟩) n n) b⟩ ∧ Hp w0 [] w' [.row 3 1 (.slice (some ⟨g, 0, none⟩) n n) n (l.map (Value.int .i64))] := by
 obtain ⟨A, c, rfl⟩ := sl_shape hs
 have hnl : l.length = n := by have := hs.len; simpa using this
 have hmle := hs.le
 refine does_of (l := [.agg ⟨textC a s (.slice A n c) b⟩]) Try.func52 (by kernel_rfl) rfl Try.ntmps52 rfl rfl ?_
 have hp := Hp.refl w0 []
 refine GW_seq ?_
 refine GW_region ?_
 refine GL_box (wn_none rfl) rfl rfl rfl rfl hp ?_
 intro g w hp
 refine GL_alloc (wn_none rfl) rfl rfl tz72 rfl hp ?_
 intro g2 w hp
 refine GL_nil ?_
 refine GW_seq ?_
 refine GW_region ?_
 refine GL_rd (wn_none rfl) rfl (rd_field rfl rfl fa72_2 _ rfl) ?_
 refine GL_rd (v := .slice _ _ _) (wn_none rfl) rfl (rd_load rfl rfl Try.underlying57 rfl ((cell_of_cells (hp.get 1 rfl) _).trans (txt33 ha _ _ _))) ?_
 refine GL_rd (wn_none rfl) rfl (rd_len rfl rfl Try.underlying57) ?_
 refine GL_make (m := n) (wn_none rfl) rfl rfl rfl Try.underlying57 ti3 rfl rfl (by omega) (by omega) hp ?_
 intro g3 w hp
 refine GL_rd (v := .slice _ _ _) (wn_none rfl) rfl (rd_assign rfl rfl) ?_
 refine GL_nil ?_
 refine GW_seq ?_
 refine GW_region ?_
 refine GL_rd (v := .slice _ _ _) (wn_none rfl) rfl (rd_move rfl rfl) ?_
 refine GL_rd (wn_none rfl) rfl (rd_field rfl rfl fa72_2 _ rfl) ?_
 refine GL_rd (v := .slice _ _ _) (wn_none rfl) rfl (rd_load rfl rfl Try.underlying57 rfl ((cell_of_cells (hp.get 2 rfl) _).trans (txt33 ha _ _ _))) ?_
 refine GL_copyR (i := 0) (wn_none rfl) rfl rfl rfl rfl Try.underlying57 ts3 hp rfl rfl (hs.keep hp.mod) (List.take_of_length_le (by rw [List.length_map]; omega)) (by rw [List.length_map, List.length_replicate]; omega) (ints_one _ _) (splice_all _ _ (by rw [List.length_map, List.length_replicate]; omega)) ?_
 intro w hp
 refine GL_nil ?_
 refine GW_seq ?_
 refine GW_region ?_
 refine GL_rd (v := .slice _ _ _) (wn_none rfl) rfl (rd_move rfl rfl) ?_
 refine GL_rd (wn_none rfl) rfl (rd_field rfl rfl fa72_2 _ rfl) ?_
 refine GL_store (i := 2) (wn_none rfl) rfl rfl rfl rfl ts57 rfl rfl (one1 rfl) hp rfl (by rw [textC_length ha]; decide) (txt_set ha _ _ _ _) ?_
 intro w hp
 refine GL_nil ?_
 refine GW_seq ?_
 refine GW_region ?_
 refine GL_rd (wn_none rfl) rfl (rd_loadC rfl rfl Try.underlying72 rfl ts72 (hp.get 2 rfl) (textC_length ha _ _ _)) ?_
 refine GL_store (i := 1) (wn_none rfl) rfl rfl rfl rfl ts72 rfl (textC_length ha _ _ _) (textC_one rfl) hp rfl (by decide) (splice_all _ _ (by rw [textC_length ha]; rfl)) ?_
 intro w hp
 refine GL_nil ?_
 refine GW_ret ?_
 refine ⟨_, res1 Try.results52 (rv_cell rfl rfl Try.underlying72 rfl ts72 (textC_length ha _ _ _) (hp.get 1 rfl)), _, rfl, hp.sub (.cons_cons _ (.cons _ (.cons _ .slnil)))⟩

theorem leaf_light (a : List UInt8) (s : Int) (sv : Value) (b : Int) (n : Nat) (l : List Int) (w0 : World) (ha : a.length = 32) (hs : Sl w0 sv 1 n (l.map (Value.int .i64))) (hsz : -9223372036854775808 ≤ s ∧ s ≤ 9223372036854775807) : Does Try.prog 42 #[.agg ⟨textC a s sv b⟩] w0 fun v w' => v = .bool (decide ((n : Int) < 50)) ∧ Hp w0 [] w' [] := by
 obtain ⟨A, c, rfl⟩ := sl_shape hs
 have hnl : l.length = n := by have := hs.len; simpa using this
 have hmle := hs.le
 refine does_of (l := [.agg ⟨textC a s (.slice A n c) b⟩]) Try.func42 (by kernel_rfl) rfl Try.ntmps42 rfl rfl ?_
 have hp := Hp.refl w0 []
 refine GW_seq ?_
 refine GW_region ?_
 refine GL_box (wn_none rfl) rfl rfl rfl rfl hp ?_
 intro g w hp
 refine GL_rd (v := .bool _) (wn_none rfl) rfl (rd_assign rfl rfl) ?_
 refine GL_nil ?_
 refine GW_seq ?_
 refine GW_region ?_
 refine GL_rd (wn_none rfl) rfl (rd_field rfl rfl fa72_2 _ rfl) ?_
 refine GL_rd (v := .slice _ _ _) (wn_none rfl) rfl (rd_load rfl rfl Try.underlying57 rfl ((cell_of_cells (hp.get 0 rfl) _).trans (txt33 ha _ _ _))) ?_
 refine GL_rd (wn_none rfl) rfl (rd_len rfl rfl Try.underlying57) ?_
 refine GL_rd (wn_none rfl) rfl (rd_bin rfl rfl rfl bo_lss) ?_
 refine GL_rd (v := .bool _) (wn_none rfl) rfl (rd_assign rfl rfl) ?_
 refine GL_nil ?_
 refine GW_ret ?_
 exact ⟨_, res1 Try.results42 (rv_tmp (v := .bool _) rfl rfl), rfl, hp.mods⟩

theorem leaf_bytes (sv : Value) (n : Nat) (l : List Int) (w0 : World) (hs : Sl w0 sv 1 n (l.map (Value.int .i64))) (hn : n ≤ 1000000) : Does Try.prog 114 #[sv] w0 fun v w' => Hp w0 [] w' [.row 5 1 v (8 * n) (bys (slotsL l))] := by
 obtain ⟨A, c, rfl⟩ := sl_shape hs
 have hnl : l.length = n := by have := hs.len; simpa using this
 refine does_of (l := [.slice A n c]) Try.func114 (by kernel_rfl) rfl Try.ntmps114 rfl rfl ?_
 have hp := Hp.refl w0 []
 refine GW_seq ?_
 refine GW_region ?_
 refine GL_rd (v := .slice _ _ _) (wn_none rfl) rfl (rd_assign rfl rfl) ?_
 refine GL_nil ?_
 refine GW_seq ?_
 refine GW_region ?_
 refine GL_rd (v := .slice _ _ _) (wn_none rfl) rfl (rd_assign rfl rfl) ?_
 refine GL_nil ?_
 refine GW_seq ?_
 refine GW_seq ?_
 refine GW_region ?_
 refine GL_rd (v := .slice _ _ _) (wn_none rfl) rfl (rd_move rfl rfl) ?_
 refine GL_rd (wn_none rfl) rfl (rd_len rfl rfl Try.underlying57) ?_
 refine GL_rd (v := .int _ _) (wn_none rfl) rfl (rd_move rfl rfl) ?_
 refine GL_nil ?_
 refine GW_block ?_
 refine GW_loop ?_
 refine Lp_ind (α := Nat × Value) (fun a_0 f_0 w' => match a_0 with | (i, v) => ∃ fz, f_0 = (upd (upd (upd (upd fz 3 (v)) 6 (.slice A n c)) 7 (.int .i64 (n : Int))) 8 (.int .i64 (i : Int))) ∧ Hp w0 [] w' [.row 5 1 v (8 * i) (bys (slotsL (l.take i)))] ∧ (i ≤ n)) (fun a_0 => match a_0 with | (i, v) => n - i) ?_ (0, .slice none 0 0) _ _ ?_
 ·rintro ⟨i, v⟩ f wz ⟨fz, rfl, hp, hi0⟩ ihL0
  refine Lp_round ?_
  refine GW_seq ?_
  refine GW_region ?_
  refine GL_rd (wn_none rfl) rfl (rd_bin rfl rfl rfl bo_lss) ?_
  refine GL_nil ?_
  refine GW_seq ?_
  refine GW_cond rfl (fun hb => ?_) (fun hb => ?_)
  ·(try simp only [decide_eq_true_eq, decide_eq_false_iff_not, Bool.not_eq_true', Bool.not_eq_false', Bool.not_eq_eq_eq_not, Bool.not_true, Bool.not_false, Int.not_lt, Int.not_le] at hb)
   obtain ⟨y, hy⟩ : ∃ y, l[i]? = some y := ⟨_, List.getElem?_eq_getElem (by omega)⟩
   obtain ⟨gA, bA, rfl⟩ := hs.addr (by rw [List.length_map]; omega)
   refine GW_skip ?_
   refine GW_seq ?_
   refine GW_block ?_
   refine GW_seq ?_
   refine GW_region ?_
   refine GL_rd (wn_none rfl) rfl (rd_indexS (j := i) rfl rfl rfl Try.underlying57 ts3 rfl (by omega) _ rfl) ?_
   refine GL_rd (wn_none rfl) rfl (rd_load rfl rfl Try.underlying3 rfl ((hs.keep hp.mod).get (i * 1) _ (by rw [Nat.mul_one, List.getElem?_map, hy]; rfl))) ?_
   refine GL_rd (v := .int _ _) (wn_none rfl) rfl (rd_assign rfl rfl) ?_
   refine GL_nil ?_
   refine GW_region ?_
   refine GL_rd (v := v) (wn_none rfl) rfl (rd_move rfl rfl) ?_
   refine GL_rd (v := .int _ _) (wn_none rfl) rfl (rd_move rfl rfl) ?_
   refine GL_rd (wn_none rfl) rfl (rd_convE (q := (u64N y : Int)) rfl rfl Try.underlying165 Try.underlying3 (by simp) (u64_wrapN y)) ?_
   refine GL_call (wn_none rfl) rfl rfl (word_Put (u64N y) 8 _ (u64N_lt y) (by decide)) rfl ?_
   rintro _ w ⟨q, rfl, hk⟩
   have hp := hp.comp hk
   refine GL_append (i := 1) (wn_none rfl) rfl rfl rfl rfl Try.underlying42 ti5 rfl (by decide) hp rfl (Sl.row (hp.get 0 rfl)) (bys_one _) (by omega) (by omega) ?_
   intro v w hp
   refine GL_rd (v := v) (wn_none rfl) rfl (rd_assign rfl rfl) ?_
   refine GL_nil ?_
   refine GW_region ?_
   refine GL_rd (wn_none rfl) rfl (rd_bin rfl rfl rfl (bo_add64 (by omega))) ?_
   refine GL_rd (v := .int _ _) (wn_none rfl) rfl (rd_move rfl rfl) ?_
   refine GL_nil ?_
   have hp := hp.drop 1
   have hp : Hp w0 [] w [.row 5 1 v (8 * (i + 1)) (bys (slotsL (l.take (i + 1))))] := by rw [slotsL_take hy, bys_append]; exact hp
   exact ihL0 (i + 1, v) _ _ (by simp only []; omega) ⟨_, slots4 rfl rfl rfl rfl, hp, (by omega)⟩
  ·(try simp only [decide_eq_true_eq, decide_eq_false_iff_not, Bool.not_eq_true', Bool.not_eq_false', Bool.not_eq_eq_eq_not, Bool.not_true, Bool.not_false, Int.not_lt, Int.not_le] at hb)
   obtain rfl : i = n := by omega
   rw [List.take_of_length_le (by omega)] at hp
   refine GW_exit ?_
   refine GW_seq ?_
   refine GW_region ?_
   refine GL_rd (v := v) (wn_none rfl) rfl (rd_move rfl rfl) ?_
   refine GL_rd (v := v) (wn_none rfl) rfl (rd_assign rfl rfl) ?_
   refine GL_nil ?_
   refine GW_ret ?_
   exact ⟨_, res1 Try.results114 (rv_tmp (v := v) rfl rfl), hp⟩
 ·have hp := hp.nilRow 5 1
  refine ⟨_, slots4 rfl rfl rfl rfl, hp, Nat.zero_le _⟩

set_option maxHeartbeats 2000000 in
theorem leaf_Same (a1 : List UInt8) (s1 : Int) (sv1 : Value) (b1 : Int) (n1 : Nat) (l1 : List Int) (a2 : List UInt8) (s2 : Int) (sv2 : Value) (b2 : Int) (n2 : Nat) (l2 : List Int) (w0 : World) (ha1 : a1.length = 32) (hs1 : Sl w0 sv1 1 n1 (l1.map (Value.int .i64))) (hsz1 : -9223372036854775808 ≤ s1 ∧ s1 ≤ 9223372036854775807) (ha2 : a2.length = 32) (hs2 : Sl w0 sv2 1 n2 (l2.map (Value.int .i64))) (hsz2 : -9223372036854775808 ≤ s2 ∧ s2 ≤ 9223372036854775807) (hr1 : I64s l1) (hn1 : n1 ≤ 1000000) (hr2 : I64s l2) (hn2 : n2 ≤ 1000000) : Does Try.prog 50 #[.agg ⟨textC a1 s1 sv1 b1⟩, .agg ⟨textC a2 s2 sv2 b2⟩] w0 fun v w' => v = .bool (sameT a1 s1 b1 l1 a2 s2 b2 l2) ∧ Hp w0 [] w' [] := by
 obtain ⟨A1, c1, rfl⟩ := sl_shape hs1
 have hnl1 : l1.length = n1 := by have := hs1.len; simpa using this
 have hmle1 := hs1.le
 obtain ⟨A2, c2, rfl⟩ := sl_shape hs2
 have hnl2 : l2.length = n2 := by have := hs2.len; simpa using this
 have hmle2 := hs2.le
 refine does_of (l := [.agg ⟨textC a1 s1 (.slice A1 n1 c1) b1⟩, .agg ⟨textC a2 s2 (.slice A2 n2 c2) b2⟩]) Try.func50 (by kernel_rfl) rfl Try.ntmps50 rfl rfl ?_
 have hp := Hp.refl w0 []
 refine GW_seq ?_
 refine GW_region ?_
 refine GL_box (wn_none rfl) rfl rfl rfl rfl hp ?_
 intro g w hp
 refine GL_box (wn_none rfl) rfl rfl rfl rfl hp ?_
 intro g2 w hp
 refine GL_rd (v := .bool _) (wn_none rfl) rfl (rd_assign rfl rfl) ?_
 refine GL_nil ?_
 refine GW_seq ?_
 refine GW_drawnK 40 (.one 0 true (.one 1 true (.one 2 true (.one 3 true (.one 4 true (.one 5 true (.one 6 true (.one 7 true (.one 8 true (.one 9 true (.one 10 true (.one 11 true (.one 12 true (.one 13 true (.one 14 true (.one 15 true (.one 16 true (.one 17 true (.one 18 true (.one 19 true (.one 20 true (.one 21 true (.one 24 true (.one 25 true (.one 22 false (.two 23 26 (.one 26 false (.one 27 false (.one 28 true (.one 29 true (.one 30 true (.one 31 true (.one 32 true (.one 33 true (.one 34 true (.one 35 true (.one 36 true (.one 37 true (.one 38 true (.one 39 true .nil)))))))))))))) (.two 23 27 (.one 27 false (.one 28 true (.one 29 true (.one 30 true (.one 31 true (.one 32 true (.one 33 true (.one 34 true (.one 35 true (.one 36 true (.one 37 true (.one 38 true (.one 39 true .nil))))))))))))) (.one 23 false (.one 28 true (.one 29 true (.one 30 true (.one 31 true (.one 32 true (.one 33 true (.one 34 true (.one 35 true (.one 36 true (.one 37 true (.one 38 true (.one 39 true .nil)))))))))))))))))))))))))))))))))))))))) mixed (by kernel_rfl) hp (fun _ h => h) fun w hp => ?_
 have hpS := hp
 refine GO_rd rfl (wn_none rfl) rfl hpS (fun w hp => (rd_field rfl rfl fa72_0 _ rfl)) ?_
 refine GO_rd rfl (wn_none rfl) rfl hpS (fun w hp => (rd_loadN (L := bys a1) rfl rfl Try.underlying70 rfl ts70 (by rw [bys_length, ha1]) (fun j u hj => by rw [Nat.zero_add]; exact (cell_of_cells (hp.get 1 rfl) j).trans (txtA ha1 _ _ _ hj)))) ?_
 refine GO_rd rfl (wn_none rfl) rfl hpS (fun w hp => (rd_field rfl rfl fa72_0 _ rfl)) ?_
 refine GO_rd rfl (wn_none rfl) rfl hpS (fun w hp => (rd_loadN (L := bys a2) rfl rfl Try.underlying70 rfl ts70 (by rw [bys_length, ha2]) (fun j u hj => by rw [Nat.zero_add]; exact (cell_of_cells (hp.get 0 rfl) j).trans (txtA ha2 _ _ _ hj)))) ?_
 refine GO_rd rfl (wn_none rfl) rfl hpS (fun w hp => (rd_bin rfl rfl rfl (bo_arrB Try.underlying70 Try.underlying5 ts5 (by kernel_rfl) ha1 ha2).1)) ?_
 refine GO_rd (v := .bool _) rfl (wn_none rfl) rfl hpS (fun w hp => (rd_move rfl rfl)) ?_
 refine GO_split (t := 10) (b := _) rfl ?_ ?_
 ·intro hb; (try simp only [decide_eq_true_eq, decide_eq_false_iff_not, Bool.not_eq_true', Bool.not_eq_false', Bool.not_eq_eq_eq_not, Bool.not_true, Bool.not_false, Int.not_lt, Int.not_le] at hb)
  have q1 := hb
  refine GO_rd rfl (wn_on rfl rfl rfl rfl) rfl hpS (fun w hp => (rd_field rfl rfl fa72_1 _ rfl)) ?_
  refine GO_rd rfl (wn_on rfl rfl rfl rfl) rfl hpS (fun w hp => (rd_load rfl rfl Try.underlying3 rfl ((cell_of_cells (hp.get 1 rfl) _).trans (txt32 ha1 _ _ _)))) ?_
  refine GO_rd rfl (wn_on rfl rfl rfl rfl) rfl hpS (fun w hp => (rd_field rfl rfl fa72_1 _ rfl)) ?_
  refine GO_rd rfl (wn_on rfl rfl rfl rfl) rfl hpS (fun w hp => (rd_load rfl rfl Try.underlying3 rfl ((cell_of_cells (hp.get 0 rfl) _).trans (txt32 ha2 _ _ _)))) ?_
  refine GO_rd rfl (wn_on rfl rfl rfl rfl) rfl hpS (fun w hp => (rd_bin rfl rfl rfl bo_eql)) ?_
  refine GO_rd (v := .bool _) rfl (wn_none rfl) rfl hpS (fun w hp => (rd_pickT rfl rfl rfl)) ?_
  refine GO_rd (v := .bool _) rfl (wn_none rfl) rfl hpS (fun w hp => (rd_move rfl rfl)) ?_
  refine GO_split (t := 17) (b := _) rfl ?_ ?_
  ·intro hb2; (try simp only [decide_eq_true_eq, decide_eq_false_iff_not, Bool.not_eq_true', Bool.not_eq_false', Bool.not_eq_eq_eq_not, Bool.not_true, Bool.not_false, Int.not_lt, Int.not_le] at hb2)
   have q2 := hb2
   refine GO_rd rfl (wn_on rfl rfl rfl rfl) rfl hpS (fun w hp => (rd_field rfl rfl fa72_3 _ rfl)) ?_
   refine GO_rd rfl (wn_on rfl rfl rfl rfl) rfl hpS (fun w hp => (rd_load rfl rfl Try.underlying3 rfl ((cell_of_cells (hp.get 1 rfl) _).trans (txt34 ha1 _ _ _)))) ?_
   refine GO_rd rfl (wn_on rfl rfl rfl rfl) rfl hpS (fun w hp => (rd_field rfl rfl fa72_3 _ rfl)) ?_
   refine GO_rd rfl (wn_on rfl rfl rfl rfl) rfl hpS (fun w hp => (rd_load rfl rfl Try.underlying3 rfl ((cell_of_cells (hp.get 0 rfl) _).trans (txt34 ha2 _ _ _)))) ?_
   refine GO_rd rfl (wn_on rfl rfl rfl rfl) rfl hpS (fun w hp => (rd_bin rfl rfl rfl bo_eql)) ?_
   refine GO_rd (v := .bool _) rfl (wn_none rfl) rfl hpS (fun w hp => (rd_pickT rfl rfl rfl)) ?_
   refine GO_rd (v := .bool _) rfl (wn_none rfl) rfl hpS (fun w hp => (rd_move rfl rfl)) ?_
   refine GO_split (t := 24) (b := _) rfl ?_ ?_
   ·intro hb3; (try simp only [decide_eq_true_eq, decide_eq_false_iff_not, Bool.not_eq_true', Bool.not_eq_false', Bool.not_eq_eq_eq_not, Bool.not_true, Bool.not_false, Int.not_lt, Int.not_le] at hb3)
    have q3 := hb3
    refine GO_rd rfl (wn_on rfl rfl rfl rfl) rfl hpS (fun w hp => (rd_field rfl rfl fa72_2 _ rfl)) ?_
    refine GO_rd (v := .slice _ _ _) rfl (wn_on rfl rfl rfl rfl) rfl hpS (fun w hp => (rd_load rfl rfl Try.underlying57 rfl ((cell_of_cells (hp.get 1 rfl) _).trans (txt33 ha1 _ _ _)))) ?_
    refine GO_rd rfl (wn_on rfl rfl rfl rfl) rfl hpS (fun w hp => (rd_field rfl rfl fa72_2 _ rfl)) ?_
    refine GO_rd (v := .slice _ _ _) rfl (wn_on rfl rfl rfl rfl) rfl hpS (fun w hp => (rd_load rfl rfl Try.underlying57 rfl ((cell_of_cells (hp.get 0 rfl) _).trans (txt33 ha2 _ _ _)))) ?_
    refine GO_of_GL rfl ?_
    refine GL_call (wn_on rfl rfl rfl rfl) rfl rfl (leaf_bytes _ n1 l1 _ (hs1.keep hp.mod) hn1) rfl ?_
    intro v1 w hk
    have hp := hp.comp hk
    have hpS2 := (hp.sub (.cons _ (.cons_cons _ (.cons_cons _ .slnil))))
    refine GL_nil ⟨fun _ => hpS2, ?_⟩
    refine GO_two rfl rfl ?_ ?_
    ·skip
     refine GC_of_GL ?_
     refine GL_rd (wn_on rfl rfl rfl rfl) rfl (rd_toStr rfl rfl Try.underlying42 Try.underlying9 Try.underlying5 (Sl.row (hp.get 0 rfl))) (GL_nil ⟨fun _ => hpS2, ?_⟩)
     refine GO_of_GL rfl ?_
     refine GL_call (wn_on rfl rfl rfl rfl) rfl rfl (leaf_bytes _ n2 l2 _ (hs2.keep hp.mod) hn2) rfl ?_
     intro v2 w hk
     have hp := hp.comp hk
     have hpS3 := (hp.sub (.cons _ (.cons _ (.cons_cons _ (.cons_cons _ .slnil)))))
     refine GL_nil ⟨fun _ => hpS3, ?_⟩
     refine GO_of_GL rfl ?_
     refine GL_rd (wn_on rfl rfl rfl rfl) rfl (rd_toStr rfl rfl Try.underlying42 Try.underlying9 Try.underlying5 (Sl.row (hp.get 0 rfl))) (GL_nil ⟨fun _ => hpS3, ?_⟩)
     refine GO_rd rfl (wn_on rfl rfl rfl rfl) rfl hpS3 (fun w hp => (rd_bin rfl rfl rfl bo_seql)) ?_
     refine GO_rd (v := .bool _) rfl (wn_none rfl) rfl hpS3 (fun w hp => (rd_pickT rfl rfl rfl)) ?_
     refine GO_rd (v := .bool _) rfl (wn_none rfl) rfl hpS3 (fun w hp => (rd_move rfl rfl)) ?_
     refine GO_split (t := 35) (b := _) rfl ?_ ?_
     ·intro hb4; (try simp only [decide_eq_true_eq, decide_eq_false_iff_not, Bool.not_eq_true', Bool.not_eq_false', Bool.not_eq_eq_eq_not, Bool.not_true, Bool.not_false, Int.not_lt, Int.not_le] at hb4)
      have q4 : l1 = l2 := slotsL_inj hr1 hr2 ((str_eq _ _).1 hb4)
      refine GO_rd rfl (wn_on rfl rfl rfl rfl) rfl hpS3 (fun w hp => (rd_field rfl rfl fa72_2 _ rfl)) ?_
      refine GO_rd (v := .slice _ _ _) rfl (wn_on rfl rfl rfl rfl) rfl hpS3 (fun w hp => (rd_load rfl rfl Try.underlying57 rfl ((cell_of_cells (hp.get 1 rfl) _).trans (txt33 ha1 _ _ _)))) ?_
      refine GO_rd rfl (wn_on rfl rfl rfl rfl) rfl hpS3 (fun w hp => (rd_len rfl rfl Try.underlying57)) ?_
      refine GO_rd rfl (wn_on rfl rfl rfl rfl) rfl hpS3 (fun w hp => (rd_field rfl rfl fa72_2 _ rfl)) ?_
      refine GO_rd (v := .slice _ _ _) rfl (wn_on rfl rfl rfl rfl) rfl hpS3 (fun w hp => (rd_load rfl rfl Try.underlying57 rfl ((cell_of_cells (hp.get 0 rfl) _).trans (txt33 ha2 _ _ _)))) ?_
      refine GO_rd rfl (wn_on rfl rfl rfl rfl) rfl hpS3 (fun w hp => (rd_len rfl rfl Try.underlying57)) ?_
      refine GO_rd rfl (wn_on rfl rfl rfl rfl) rfl hpS3 (fun w hp => (rd_bin rfl rfl rfl bo_eql)) ?_
      refine GO_rd (v := .bool _) rfl (wn_none rfl) rfl hpS3 (fun w hp => (rd_pickT rfl rfl rfl)) ?_
      refine GO_rd (v := .bool _) rfl (wn_none rfl) rfl hpS3 (fun w hp => (rd_assign rfl rfl)) ?_
      refine GO_nil ?_
      refine GW_ret ?_
      exact ⟨_, res1 Try.results50 (rv_tmp (v := .bool _) rfl rfl), by rw [same_yes ⟨q1, q2, q3, q4⟩, decide_eq_true (show (n1 : Int) = n2 by rw [← hnl1, ← hnl2, q4])], hp.mods⟩
     ·intro hb4; (try simp only [decide_eq_true_eq, decide_eq_false_iff_not, Bool.not_eq_true', Bool.not_eq_false', Bool.not_eq_eq_eq_not, Bool.not_true, Bool.not_false, Int.not_lt, Int.not_le] at hb4)
      have hno := same_no (a1 := a1) (a2 := a2) (s1 := s1) (s2 := s2) (b1 := b1) (b2 := b2) (l1 := l1) (l2 := l2) (fun hh => hb4 ((str_eq _ _).2 (congrArg slotsL hh.2.2.2)))
      refine GO_pass rfl (nw_off rfl rfl rfl rfl rfl) rfl hpS3 ?_
      refine GO_pass rfl (nw_off rfl rfl rfl rfl rfl) rfl hpS3 ?_
      refine GO_pass rfl (nw_off rfl rfl rfl rfl rfl) rfl hpS3 ?_
      refine GO_pass rfl (nw_off rfl rfl rfl rfl rfl) rfl hpS3 ?_
      refine GO_pass rfl (nw_off rfl rfl rfl rfl rfl) rfl hpS3 ?_
      refine GO_pass rfl (nw_off rfl rfl rfl rfl rfl) rfl hpS3 ?_
      refine GO_pass rfl (nw_off rfl rfl rfl rfl rfl) rfl hpS3 ?_
      refine GO_rd (v := .bool _) rfl (wn_none rfl) rfl hpS3 (fun w hp => (rd_pickF rfl rfl rfl)) ?_
      refine GO_rd (v := .bool _) rfl (wn_none rfl) rfl hpS3 (fun w hp => (rd_assign rfl rfl)) ?_
      refine GO_nil ?_
      refine GW_ret ?_
      exact ⟨_, res1 Try.results50 (rv_tmp (v := .bool _) rfl rfl), by rw [hno], hp.mods⟩
    ·skip
     refine GC_of_GL ?_
     refine GL_call (wn_on rfl rfl rfl rfl) rfl rfl (leaf_bytes _ n2 l2 _ (hs2.keep hp.mod) hn2) rfl ?_
     intro v2 w hk
     have hp := hp.comp hk
     have hpS4 := (hp.sub (.cons _ (.cons _ (.cons_cons _ (.cons_cons _ .slnil)))))
     refine GL_nil ⟨fun _ => hpS4, ?_⟩
     refine GO_two rfl rfl ?_ ?_
     ·skip
      refine GC_of_GL ?_
      refine GL_rd (wn_on rfl rfl rfl rfl) rfl (rd_toStr rfl rfl Try.underlying42 Try.underlying9 Try.underlying5 (Sl.row (hp.get 1 rfl))) (GL_nil ⟨fun _ => hpS4, ?_⟩)
      refine GO_of_GL rfl ?_
      refine GL_rd (wn_on rfl rfl rfl rfl) rfl (rd_toStr rfl rfl Try.underlying42 Try.underlying9 Try.underlying5 (Sl.row (hp.get 0 rfl))) (GL_nil ⟨fun _ => hpS4, ?_⟩)
      refine GO_rd rfl (wn_on rfl rfl rfl rfl) rfl hpS4 (fun w hp => (rd_bin rfl rfl rfl bo_seql)) ?_
      refine GO_rd (v := .bool _) rfl (wn_none rfl) rfl hpS4 (fun w hp => (rd_pickT rfl rfl rfl)) ?_
      refine GO_rd (v := .bool _) rfl (wn_none rfl) rfl hpS4 (fun w hp => (rd_move rfl rfl)) ?_
      refine GO_split (t := 35) (b := _) rfl ?_ ?_
      ·intro hb5; (try simp only [decide_eq_true_eq, decide_eq_false_iff_not, Bool.not_eq_true', Bool.not_eq_false', Bool.not_eq_eq_eq_not, Bool.not_true, Bool.not_false, Int.not_lt, Int.not_le] at hb5)
       have q4 : l1 = l2 := slotsL_inj hr1 hr2 ((str_eq _ _).1 hb5)
       refine GO_rd rfl (wn_on rfl rfl rfl rfl) rfl hpS4 (fun w hp => (rd_field rfl rfl fa72_2 _ rfl)) ?_
       refine GO_rd (v := .slice _ _ _) rfl (wn_on rfl rfl rfl rfl) rfl hpS4 (fun w hp => (rd_load rfl rfl Try.underlying57 rfl ((cell_of_cells (hp.get 1 rfl) _).trans (txt33 ha1 _ _ _)))) ?_
       refine GO_rd rfl (wn_on rfl rfl rfl rfl) rfl hpS4 (fun w hp => (rd_len rfl rfl Try.underlying57)) ?_
       refine GO_rd rfl (wn_on rfl rfl rfl rfl) rfl hpS4 (fun w hp => (rd_field rfl rfl fa72_2 _ rfl)) ?_
       refine GO_rd (v := .slice _ _ _) rfl (wn_on rfl rfl rfl rfl) rfl hpS4 (fun w hp => (rd_load rfl rfl Try.underlying57 rfl ((cell_of_cells (hp.get 0 rfl) _).trans (txt33 ha2 _ _ _)))) ?_
       refine GO_rd rfl (wn_on rfl rfl rfl rfl) rfl hpS4 (fun w hp => (rd_len rfl rfl Try.underlying57)) ?_
       refine GO_rd rfl (wn_on rfl rfl rfl rfl) rfl hpS4 (fun w hp => (rd_bin rfl rfl rfl bo_eql)) ?_
       refine GO_rd (v := .bool _) rfl (wn_none rfl) rfl hpS4 (fun w hp => (rd_pickT rfl rfl rfl)) ?_
       refine GO_rd (v := .bool _) rfl (wn_none rfl) rfl hpS4 (fun w hp => (rd_assign rfl rfl)) ?_
       refine GO_nil ?_
       refine GW_ret ?_
       exact ⟨_, res1 Try.results50 (rv_tmp (v := .bool _) rfl rfl), by rw [same_yes ⟨q1, q2, q3, q4⟩, decide_eq_true (show (n1 : Int) = n2 by rw [← hnl1, ← hnl2, q4])], hp.mods⟩
      ·intro hb5; (try simp only [decide_eq_true_eq, decide_eq_false_iff_not, Bool.not_eq_true', Bool.not_eq_false', Bool.not_eq_eq_eq_not, Bool.not_true, Bool.not_false, Int.not_lt, Int.not_le] at hb5)
       have hno := same_no (a1 := a1) (a2 := a2) (s1 := s1) (s2 := s2) (b1 := b1) (b2 := b2) (l1 := l1) (l2 := l2) (fun hh => hb5 ((str_eq _ _).2 (congrArg slotsL hh.2.2.2)))
       refine GO_pass rfl (nw_off rfl rfl rfl rfl rfl) rfl hpS4 ?_
       refine GO_pass rfl (nw_off rfl rfl rfl rfl rfl) rfl hpS4 ?_
       refine GO_pass rfl (nw_off rfl rfl rfl rfl rfl) rfl hpS4 ?_
       refine GO_pass rfl (nw_off rfl rfl rfl rfl rfl) rfl hpS4 ?_
       refine GO_pass rfl (nw_off rfl rfl rfl rfl rfl) rfl hpS4 ?_
       refine GO_pass rfl (nw_off rfl rfl rfl rfl rfl) rfl hpS4 ?_
       refine GO_pass rfl (nw_off rfl rfl rfl rfl rfl) rfl hpS4 ?_
       refine GO_rd (v := .bool _) rfl (wn_none rfl) rfl hpS4 (fun w hp => (rd_pickF rfl rfl rfl)) ?_
       refine GO_rd (v := .bool _) rfl (wn_none rfl) rfl hpS4 (fun w hp => (rd_assign rfl rfl)) ?_
       refine GO_nil ?_
       refine GW_ret ?_
       exact ⟨_, res1 Try.results50 (rv_tmp (v := .bool _) rfl rfl), by rw [hno], hp.mods⟩
     ·skip
      refine GC_of_GL ?_
      refine GL_rd (wn_on rfl rfl rfl rfl) rfl (rd_toStr rfl rfl Try.underlying42 Try.underlying9 Try.underlying5 (Sl.row (hp.get 0 rfl))) (GL_nil ⟨fun _ => hpS4, ?_⟩)
      refine GO_of_GL rfl ?_
      refine GL_rd (wn_on rfl rfl rfl rfl) rfl (rd_toStr rfl rfl Try.underlying42 Try.underlying9 Try.underlying5 (Sl.row (hp.get 1 rfl))) (GL_nil ⟨fun _ => hpS4, ?_⟩)
      refine GO_rd rfl (wn_on rfl rfl rfl rfl) rfl hpS4 (fun w hp => (rd_bin rfl rfl rfl bo_seql)) ?_
      refine GO_rd (v := .bool _) rfl (wn_none rfl) rfl hpS4 (fun w hp => (rd_pickT rfl rfl rfl)) ?_
      refine GO_rd (v := .bool _) rfl (wn_none rfl) rfl hpS4 (fun w hp => (rd_move rfl rfl)) ?_
      refine GO_split (t := 35) (b := _) rfl ?_ ?_
      ·intro hb6; (try simp only [decide_eq_true_eq, decide_eq_false_iff_not, Bool.not_eq_true', Bool.not_eq_false', Bool.not_eq_eq_eq_not, Bool.not_true, Bool.not_false, Int.not_lt, Int.not_le] at hb6)
       have q4 : l1 = l2 := slotsL_inj hr1 hr2 ((str_eq _ _).1 hb6)
       refine GO_rd rfl (wn_on rfl rfl rfl rfl) rfl hpS4 (fun w hp => (rd_field rfl rfl fa72_2 _ rfl)) ?_
       refine GO_rd (v := .slice _ _ _) rfl (wn_on rfl rfl rfl rfl) rfl hpS4 (fun w hp => (rd_load rfl rfl Try.underlying57 rfl ((cell_of_cells (hp.get 1 rfl) _).trans (txt33 ha1 _ _ _)))) ?_
       refine GO_rd rfl (wn_on rfl rfl rfl rfl) rfl hpS4 (fun w hp => (rd_len rfl rfl Try.underlying57)) ?_
       refine GO_rd rfl (wn_on rfl rfl rfl rfl) rfl hpS4 (fun w hp => (rd_field rfl rfl fa72_2 _ rfl)) ?_
       refine GO_rd (v := .slice _ _ _) rfl (wn_on rfl rfl rfl rfl) rfl hpS4 (fun w hp => (rd_load rfl rfl Try.underlying57 rfl ((cell_of_cells (hp.get 0 rfl) _).trans (txt33 ha2 _ _ _)))) ?_
       refine GO_rd rfl (wn_on rfl rfl rfl rfl) rfl hpS4 (fun w hp => (rd_len rfl rfl Try.underlying57)) ?_
       refine GO_rd rfl (wn_on rfl rfl rfl rfl) rfl hpS4 (fun w hp => (rd_bin rfl rfl rfl bo_eql)) ?_
       refine GO_rd (v := .bool _) rfl (wn_none rfl) rfl hpS4 (fun w hp => (rd_pickT rfl rfl rfl)) ?_
       refine GO_rd (v := .bool _) rfl (wn_none rfl) rfl hpS4 (fun w hp => (rd_assign rfl rfl)) ?_
       refine GO_nil ?_
       refine GW_ret ?_
       exact ⟨_, res1 Try.results50 (rv_tmp (v := .bool _) rfl rfl), by rw [same_yes ⟨q1, q2, q3, q4⟩, decide_eq_true (show (n1 : Int) = n2 by rw [← hnl1, ← hnl2, q4])], hp.mods⟩
      ·intro hb6; (try simp only [decide_eq_true_eq, decide_eq_false_iff_not, Bool.not_eq_true', Bool.not_eq_false', Bool.not_eq_eq_eq_not, Bool.not_true, Bool.not_false, Int.not_lt, Int.not_le] at hb6)
       have hno := same_no (a1 := a1) (a2 := a2) (s1 := s1) (s2 := s2) (b1 := b1) (b2 := b2) (l1 := l1) (l2 := l2) (fun hh => hb6 ((str_eq _ _).2 (congrArg slotsL hh.2.2.2)))
       refine GO_pass rfl (nw_off rfl rfl rfl rfl rfl) rfl hpS4 ?_
       refine GO_pass rfl (nw_off rfl rfl rfl rfl rfl) rfl hpS4 ?_
       refine GO_pass rfl (nw_off rfl rfl rfl rfl rfl) rfl hpS4 ?_
       refine GO_pass rfl (nw_off rfl rfl rfl rfl rfl) rfl hpS4 ?_
       refine GO_pass rfl (nw_off rfl rfl rfl rfl rfl) rfl hpS4 ?_
       refine GO_pass rfl (nw_off rfl rfl rfl rfl rfl) rfl hpS4 ?_
       refine GO_pass rfl (nw_off rfl rfl rfl rfl rfl) rfl hpS4 ?_
       refine GO_rd (v := .bool _) rfl (wn_none rfl) rfl hpS4 (fun w hp => (rd_pickF rfl rfl rfl)) ?_
       refine GO_rd (v := .bool _) rfl (wn_none rfl) rfl hpS4 (fun w hp => (rd_assign rfl rfl)) ?_
       refine GO_nil ?_
       refine GW_ret ?_
       exact ⟨_, res1 Try.results50 (rv_tmp (v := .bool _) rfl rfl), by rw [hno], hp.mods⟩
   ·intro hb3; (try simp only [decide_eq_true_eq, decide_eq_false_iff_not, Bool.not_eq_true', Bool.not_eq_false', Bool.not_eq_eq_eq_not, Bool.not_true, Bool.not_false, Int.not_lt, Int.not_le] at hb3)
    have hno := same_no (a1 := a1) (a2 := a2) (s1 := s1) (s2 := s2) (b1 := b1) (b2 := b2) (l1 := l1) (l2 := l2) (fun hh => hb3 hh.2.2.1)
    refine GO_pass rfl (nw_off rfl rfl rfl rfl rfl) rfl hpS ?_
    refine GO_pass rfl (nw_off rfl rfl rfl rfl rfl) rfl hpS ?_
    refine GO_pass rfl (nw_off rfl rfl rfl rfl rfl) rfl hpS ?_
    refine GO_pass rfl (nw_off rfl rfl rfl rfl rfl) rfl hpS ?_
    refine GO_of_GL rfl ?_
    refine GL_pass (nw_off rfl rfl rfl rfl rfl) rfl (GL_nil ⟨fun _ => hpS, ?_⟩)
    refine GO_two rfl rfl ?_ ?_
    ·skip
     refine GC_of_GL ?_
     refine GL_pass (nw_off rfl rfl rfl rfl rfl) rfl (GL_nil ⟨fun _ => hpS, ?_⟩)
     refine GO_of_GL rfl ?_
     refine GL_pass (nw_off rfl rfl rfl rfl rfl) rfl (GL_nil ⟨fun _ => hpS, ?_⟩)
     refine GO_of_GL rfl ?_
     refine GL_pass (nw_off rfl rfl rfl rfl rfl) rfl (GL_nil ⟨fun _ => hpS, ?_⟩)
     refine GO_pass rfl (nw_off rfl rfl rfl rfl rfl) rfl hpS ?_
     refine GO_rd (v := .bool _) rfl (wn_none rfl) rfl hpS (fun w hp => (rd_pickF rfl rfl rfl)) ?_
     refine GO_rd (v := .bool _) rfl (wn_none rfl) rfl hpS (fun w hp => (rd_move rfl rfl)) ?_
     refine GO_pass rfl (nw_off rfl rfl rfl rfl rfl) rfl hpS ?_
     refine GO_pass rfl (nw_off rfl rfl rfl rfl rfl) rfl hpS ?_
     refine GO_pass rfl (nw_off rfl rfl rfl rfl rfl) rfl hpS ?_
     refine GO_pass rfl (nw_off rfl rfl rfl rfl rfl) rfl hpS ?_
     refine GO_pass rfl (nw_off rfl rfl rfl rfl rfl) rfl hpS ?_
     refine GO_pass rfl (nw_off rfl rfl rfl rfl rfl) rfl hpS ?_
     refine GO_pass rfl (nw_off rfl rfl rfl rfl rfl) rfl hpS ?_
     refine GO_rd (v := .bool _) rfl (wn_none rfl) rfl hpS (fun w hp => (rd_pickF rfl rfl rfl)) ?_
     refine GO_rd (v := .bool _) rfl (wn_none rfl) rfl hpS (fun w hp => (rd_assign rfl rfl)) ?_
     refine GO_nil ?_
     refine GW_ret ?_
     exact ⟨_, res1 Try.results50 (rv_tmp (v := .bool _) rfl rfl), by rw [hno], hp.mods⟩
    ·skip
     refine GC_of_GL ?_
     refine GL_pass (nw_off rfl rfl rfl rfl rfl) rfl (GL_nil ⟨fun _ => hpS, ?_⟩)
     refine GO_two rfl rfl ?_ ?_
     ·skip
      refine GC_of_GL ?_
      refine GL_pass (nw_off rfl rfl rfl rfl rfl) rfl (GL_nil ⟨fun _ => hpS, ?_⟩)
      refine GO_of_GL rfl ?_
      refine GL_pass (nw_off rfl rfl rfl rfl rfl) rfl (GL_nil ⟨fun _ => hpS, ?_⟩)
      refine GO_pass rfl (nw_off rfl rfl rfl rfl rfl) rfl hpS ?_
      refine GO_rd (v := .bool _) rfl (wn_none rfl) rfl hpS (fun w hp => (rd_pickF rfl rfl rfl)) ?_
      refine GO_rd (v := .bool _) rfl (wn_none rfl) rfl hpS (fun w hp => (rd_move rfl rfl)) ?_
      refine GO_pass rfl (nw_off rfl rfl rfl rfl rfl) rfl hpS ?_
      refine GO_pass rfl (nw_off rfl rfl rfl rfl rfl) rfl hpS ?_
      refine GO_pass rfl (nw_off rfl rfl rfl rfl rfl) rfl hpS ?_
      refine GO_pass rfl (nw_off rfl rfl rfl rfl rfl) rfl hpS ?_
      refine GO_pass rfl (nw_off rfl rfl rfl rfl rfl) rfl hpS ?_
      refine GO_pass rfl (nw_off rfl rfl rfl rfl rfl) rfl hpS ?_
      refine GO_pass rfl (nw_off rfl rfl rfl rfl rfl) rfl hpS ?_
      refine GO_rd (v := .bool _) rfl (wn_none rfl) rfl hpS (fun w hp => (rd_pickF rfl rfl rfl)) ?_
      refine GO_rd (v := .bool _) rfl (wn_none rfl) rfl hpS (fun w hp => (rd_assign rfl rfl)) ?_
      refine GO_nil ?_
      refine GW_ret ?_
      exact ⟨_, res1 Try.results50 (rv_tmp (v := .bool _) rfl rfl), by rw [hno], hp.mods⟩
     ·skip
      refine GC_of_GL ?_
      refine GL_pass (nw_off rfl rfl rfl rfl rfl) rfl (GL_nil ⟨fun _ => hpS, ?_⟩)
      refine GO_of_GL rfl ?_
      refine GL_pass (nw_off rfl rfl rfl rfl rfl) rfl (GL_nil ⟨fun _ => hpS, ?_⟩)
      refine GO_pass rfl (nw_off rfl rfl rfl rfl rfl) rfl hpS ?_
      refine GO_rd (v := .bool _) rfl (wn_none rfl) rfl hpS (fun w hp => (rd_pickF rfl rfl rfl)) ?_
      refine GO_rd (v := .bool _) rfl (wn_none rfl) rfl hpS (fun w hp => (rd_move rfl rfl)) ?_
      refine GO_pass rfl (nw_off rfl rfl rfl rfl rfl) rfl hpS ?_
      refine GO_pass rfl (nw_off rfl rfl rfl rfl rfl) rfl hpS ?_
      refine GO_pass rfl (nw_off rfl rfl rfl rfl rfl) rfl hpS ?_
      refine GO_pass rfl (nw_off rfl rfl rfl rfl rfl) rfl hpS ?_
      refine GO_pass rfl (nw_off rfl rfl rfl rfl rfl) rfl hpS ?_
      refine GO_pass rfl (nw_off rfl rfl rfl rfl rfl) rfl hpS ?_
      refine GO_pass rfl (nw_off rfl rfl rfl rfl rfl) rfl hpS ?_
      refine GO_rd (v := .bool _) rfl (wn_none rfl) rfl hpS (fun w hp => (rd_pickF rfl rfl rfl)) ?_
      refine GO_rd (v := .bool _) rfl (wn_none rfl) rfl hpS (fun w hp => (rd_assign rfl rfl)) ?_
      refine GO_nil ?_
      refine GW_ret ?_
      exact ⟨_, res1 Try.results50 (rv_tmp (v := .bool _) rfl rfl), by rw [hno], hp.mods⟩
  ·intro hb2; (try simp only [decide_eq_true_eq, decide_eq_false_iff_not, Bool.not_eq_true', Bool.not_eq_false', Bool.not_eq_eq_eq_not, Bool.not_true, Bool.not_false, Int.not_lt, Int.not_le] at hb2)
   have hno := same_no (a1 := a1) (a2 := a2) (s1 := s1) (s2 := s2) (b1 := b1) (b2 := b2) (l1 := l1) (l2 := l2) (fun hh => hb2 hh.2.1)
   refine GO_pass rfl (nw_off rfl rfl rfl rfl rfl) rfl hpS ?_
   refine GO_pass rfl (nw_off rfl rfl rfl rfl rfl) rfl hpS ?_
   refine GO_pass rfl (nw_off rfl rfl rfl rfl rfl) rfl hpS ?_
   refine GO_pass rfl (nw_off rfl rfl rfl rfl rfl) rfl hpS ?_
   refine GO_pass rfl (nw_off rfl rfl rfl rfl rfl) rfl hpS ?_
   refine GO_rd (v := .bool _) rfl (wn_none rfl) rfl hpS (fun w hp => (rd_pickF rfl rfl rfl)) ?_
   refine GO_rd (v := .bool _) rfl (wn_none rfl) rfl hpS (fun w hp => (rd_move rfl rfl)) ?_
   refine GO_pass rfl (nw_off rfl rfl rfl rfl rfl) rfl hpS ?_
   refine GO_pass rfl (nw_off rfl rfl rfl rfl rfl) rfl hpS ?_
   refine GO_pass rfl (nw_off rfl rfl rfl rfl rfl) rfl hpS ?_
   refine GO_pass rfl (nw_off rfl rfl rfl rfl rfl) rfl hpS ?_
   refine GO_of_GL rfl ?_
   refine GL_pass (nw_off rfl rfl rfl rfl rfl) rfl (GL_nil ⟨fun _ => hpS, ?_⟩)
   refine GO_two rfl rfl ?_ ?_
   ·skip
    refine GC_of_GL ?_
    refine GL_pass (nw_off rfl rfl rfl rfl rfl) rfl (GL_nil ⟨fun _ => hpS, ?_⟩)
    refine GO_of_GL rfl ?_
    refine GL_pass (nw_off rfl rfl rfl rfl rfl) rfl (GL_nil ⟨fun _ => hpS, ?_⟩)
    refine GO_of_GL rfl ?_
    refine GL_pass (nw_off rfl rfl rfl rfl rfl) rfl (GL_nil ⟨fun _ => hpS, ?_⟩)
    refine GO_pass rfl (nw_off rfl rfl rfl rfl rfl) rfl hpS ?_
    refine GO_rd (v := .bool _) rfl (wn_none rfl) rfl hpS (fun w hp => (rd_pickF rfl rfl rfl)) ?_
    refine GO_rd (v := .bool _) rfl (wn_none rfl) rfl hpS (fun w hp => (rd_move rfl rfl)) ?_
    refine GO_pass rfl (nw_off rfl rfl rfl rfl rfl) rfl hpS ?_
    refine GO_pass rfl (nw_off rfl rfl rfl rfl rfl) rfl hpS ?_
    refine GO_pass rfl (nw_off rfl rfl rfl rfl rfl) rfl hpS ?_
    refine GO_pass rfl (nw_off rfl rfl rfl rfl rfl) rfl hpS ?_
    refine GO_pass rfl (nw_off rfl rfl rfl rfl rfl) rfl hpS ?_
    refine GO_pass rfl (nw_off rfl rfl rfl rfl rfl) rfl hpS ?_
    refine GO_pass rfl (nw_off rfl rfl rfl rfl rfl) rfl hpS ?_
    refine GO_rd (v := .bool _) rfl (wn_none rfl) rfl hpS (fun w hp => (rd_pickF rfl rfl rfl)) ?_
    refine GO_rd (v := .bool _) rfl (wn_none rfl) rfl hpS (fun w hp => (rd_assign rfl rfl)) ?_
    refine GO_nil ?_
    refine GW_ret ?_
    exact ⟨_, res1 Try.results50 (rv_tmp (v := .bool _) rfl rfl), by rw [hno], hp.mods⟩
   ·skip
    refine GC_of_GL ?_
    refine GL_pass (nw_off rfl rfl rfl rfl rfl) rfl (GL_nil ⟨fun _ => hpS, ?_⟩)
    refine GO_two rfl rfl ?_ ?_
    ·skip
     refine GC_of_GL ?_
     refine GL_pass (nw_off rfl rfl rfl rfl rfl) rfl (GL_nil ⟨fun _ => hpS, ?_⟩)
     refine GO_of_GL rfl ?_
     refine GL_pass (nw_off rfl rfl rfl rfl rfl) rfl (GL_nil ⟨fun _ => hpS, ?_⟩)
     refine GO_pass rfl (nw_off rfl rfl rfl rfl rfl) rfl hpS ?_
     refine GO_rd (v := .bool _) rfl (wn_none rfl) rfl hpS (fun w hp => (rd_pickF rfl rfl rfl)) ?_
     refine GO_rd (v := .bool _) rfl (wn_none rfl) rfl hpS (fun w hp => (rd_move rfl rfl)) ?_
     refine GO_pass rfl (nw_off rfl rfl rfl rfl rfl) rfl hpS ?_
     refine GO_pass rfl (nw_off rfl rfl rfl rfl rfl) rfl hpS ?_
     refine GO_pass rfl (nw_off rfl rfl rfl rfl rfl) rfl hpS ?_
     refine GO_pass rfl (nw_off rfl rfl rfl rfl rfl) rfl hpS ?_
     refine GO_pass rfl (nw_off rfl rfl rfl rfl rfl) rfl hpS ?_
     refine GO_pass rfl (nw_off rfl rfl rfl rfl rfl) rfl hpS ?_
     refine GO_pass rfl (nw_off rfl rfl rfl rfl rfl) rfl hpS ?_
     refine GO_rd (v := .bool _) rfl (wn_none rfl) rfl hpS (fun w hp => (rd_pickF rfl rfl rfl)) ?_
     refine GO_rd (v := .bool _) rfl (wn_none rfl) rfl hpS (fun w hp => (rd_assign rfl rfl)) ?_
     refine GO_nil ?_
     refine GW_ret ?_
     exact ⟨_, res1 Try.results50 (rv_tmp (v := .bool _) rfl rfl), by rw [hno], hp.mods⟩
    ·skip
     refine GC_of_GL ?_
     refine GL_pass (nw_off rfl rfl rfl rfl rfl) rfl (GL_nil ⟨fun _ => hpS, ?_⟩)
     refine GO_of_GL rfl ?_
     refine GL_pass (nw_off rfl rfl rfl rfl rfl) rfl (GL_nil ⟨fun _ => hpS, ?_⟩)
     refine GO_pass rfl (nw_off rfl rfl rfl rfl rfl) rfl hpS ?_
     refine GO_rd (v := .bool _) rfl (wn_none rfl) rfl hpS (fun w hp => (rd_pickF rfl rfl rfl)) ?_
     refine GO_rd (v := .bool _) rfl (wn_none rfl) rfl hpS (fun w hp => (rd_move rfl rfl)) ?_
     refine GO_pass rfl (nw_off rfl rfl rfl rfl rfl) rfl hpS ?_
     refine GO_pass rfl (nw_off rfl rfl rfl rfl rfl) rfl hpS ?_
     refine GO_pass rfl (nw_off rfl rfl rfl rfl rfl) rfl hpS ?_
     refine GO_pass rfl (nw_off rfl rfl rfl rfl rfl) rfl hpS ?_
     refine GO_pass rfl (nw_off rfl rfl rfl rfl rfl) rfl hpS ?_
     refine GO_pass rfl (nw_off rfl rfl rfl rfl rfl) rfl hpS ?_
     refine GO_pass rfl (nw_off rfl rfl rfl rfl rfl) rfl hpS ?_
     refine GO_rd (v := .bool _) rfl (wn_none rfl) rfl hpS (fun w hp => (rd_pickF rfl rfl rfl)) ?_
     refine GO_rd (v := .bool _) rfl (wn_none rfl) rfl hpS (fun w hp => (rd_assign rfl rfl)) ?_
     refine GO_nil ?_
     refine GW_ret ?_
     exact ⟨_, res1 Try.results50 (rv_tmp (v := .bool _) rfl rfl), by rw [hno], hp.mods⟩
 ·intro hb; (try simp only [decide_eq_true_eq, decide_eq_false_iff_not, Bool.not_eq_true', Bool.not_eq_false', Bool.not_eq_eq_eq_not, Bool.not_true, Bool.not_false, Int.not_lt, Int.not_le] at hb)
  have hno := same_no (a1 := a1) (a2 := a2) (s1 := s1) (s2 := s2) (b1 := b1) (b2 := b2) (l1 := l1) (l2 := l2) (fun hh => hb hh.1)
  refine GO_pass rfl (nw_off rfl rfl rfl rfl rfl) rfl hpS ?_
  refine GO_pass rfl (nw_off rfl rfl rfl rfl rfl) rfl hpS ?_
  refine GO_pass rfl (nw_off rfl rfl rfl rfl rfl) rfl hpS ?_
  refine GO_pass rfl (nw_off rfl rfl rfl rfl rfl) rfl hpS ?_
  refine GO_pass rfl (nw_off rfl rfl rfl rfl rfl) rfl hpS ?_
  refine GO_rd (v := .bool _) rfl (wn_none rfl) rfl hpS (fun w hp => (rd_pickF rfl rfl rfl)) ?_
  refine GO_rd (v := .bool _) rfl (wn_none rfl) rfl hpS (fun w hp => (rd_move rfl rfl)) ?_
  refine GO_pass rfl (nw_off rfl rfl rfl rfl rfl) rfl hpS ?_
  refine GO_pass rfl (nw_off rfl rfl rfl rfl rfl) rfl hpS ?_
  refine GO_pass rfl (nw_off rfl rfl rfl rfl rfl) rfl hpS ?_
  refine GO_pass rfl (nw_off rfl rfl rfl rfl rfl) rfl hpS ?_
  refine GO_pass rfl (nw_off rfl rfl rfl rfl rfl) rfl hpS ?_
  refine GO_rd (v := .bool _) rfl (wn_none rfl) rfl hpS (fun w hp => (rd_pickF rfl rfl rfl)) ?_
  refine GO_rd (v := .bool _) rfl (wn_none rfl) rfl hpS (fun w hp => (rd_move rfl rfl)) ?_
  refine GO_pass rfl (nw_off rfl rfl rfl rfl rfl) rfl hpS ?_
  refine GO_pass rfl (nw_off rfl rfl rfl rfl rfl) rfl hpS ?_
  refine GO_pass rfl (nw_off rfl rfl rfl rfl rfl) rfl hpS ?_
  refine GO_pass rfl (nw_off rfl rfl rfl rfl rfl) rfl hpS ?_
  refine GO_of_GL rfl ?_
  refine GL_pass (nw_off rfl rfl rfl rfl rfl) rfl (GL_nil ⟨fun _ => hpS, ?_⟩)
  refine GO_two rfl rfl ?_ ?_
  ·skip
   refine GC_of_GL ?_
   refine GL_pass (nw_off rfl rfl rfl rfl rfl) rfl (GL_nil ⟨fun _ => hpS, ?_⟩)
   refine GO_of_GL rfl ?_
   refine GL_pass (nw_off rfl rfl rfl rfl rfl) rfl (GL_nil ⟨fun _ => hpS, ?_⟩)
   refine GO_of_GL rfl ?_
   refine GL_pass (nw_off rfl rfl rfl rfl rfl) rfl (GL_nil ⟨fun _ => hpS, ?_⟩)
   refine GO_pass rfl (nw_off rfl rfl rfl rfl rfl) rfl hpS ?_
   refine GO_rd (v := .bool _) rfl (wn_none rfl) rfl hpS (fun w hp => (rd_pickF rfl rfl rfl)) ?_
   refine GO_rd (v := .bool _) rfl (wn_none rfl) rfl hpS (fun w hp => (rd_move rfl rfl)) ?_
   refine GO_pass rfl (nw_off rfl rfl rfl rfl rfl) rfl hpS ?_
   refine GO_pass rfl (nw_off rfl rfl rfl rfl rfl) rfl hpS ?_
   refine GO_pass rfl (nw_off rfl rfl rfl rfl rfl) rfl hpS ?_
   refine GO_pass rfl (nw_off rfl rfl rfl rfl rfl) rfl hpS ?_
   refine GO_pass rfl (nw_off rfl rfl rfl rfl rfl) rfl hpS ?_
   refine GO_pass rfl (nw_off rfl rfl rfl rfl rfl) rfl hpS ?_
   refine GO_pass rfl (nw_off rfl rfl rfl rfl rfl) rfl hpS ?_
   refine GO_rd (v := .bool _) rfl (wn_none rfl) rfl hpS (fun w hp => (rd_pickF rfl rfl rfl)) ?_
   refine GO_rd (v := .bool _) rfl (wn_none rfl) rfl hpS (fun w hp => (rd_assign rfl rfl)) ?_
   refine GO_nil ?_
   refine GW_ret ?_
   exact ⟨_, res1 Try.results50 (rv_tmp (v := .bool _) rfl rfl), by rw [hno], hp.mods⟩
  ·skip
   refine GC_of_GL ?_
   refine GL_pass (nw_off rfl rfl rfl rfl rfl) rfl (GL_nil ⟨fun _ => hpS, ?_⟩)
   refine GO_two rfl rfl ?_ ?_
   ·skip
    refine GC_of_GL ?_
    refine GL_pass (nw_off rfl rfl rfl rfl rfl) rfl (GL_nil ⟨fun _ => hpS, ?_⟩)
    refine GO_of_GL rfl ?_
    refine GL_pass (nw_off rfl rfl rfl rfl rfl) rfl (GL_nil ⟨fun _ => hpS, ?_⟩)
    refine GO_pass rfl (nw_off rfl rfl rfl rfl rfl) rfl hpS ?_
    refine GO_rd (v := .bool _) rfl (wn_none rfl) rfl hpS (fun w hp => (rd_pickF rfl rfl rfl)) ?_
    refine GO_rd (v := .bool _) rfl (wn_none rfl) rfl hpS (fun w hp => (rd_move rfl rfl)) ?_
    refine GO_pass rfl (nw_off rfl rfl rfl rfl rfl) rfl hpS ?_
    refine GO_pass rfl (nw_off rfl rfl rfl rfl rfl) rfl hpS ?_
    refine GO_pass rfl (nw_off rfl rfl rfl rfl rfl) rfl hpS ?_
    refine GO_pass rfl (nw_off rfl rfl rfl rfl rfl) rfl hpS ?_
    refine GO_pass rfl (nw_off rfl rfl rfl rfl rfl) rfl hpS ?_
    refine GO_pass rfl (nw_off rfl rfl rfl rfl rfl) rfl hpS ?_
    refine GO_pass rfl (nw_off rfl rfl rfl rfl rfl) rfl hpS ?_
    refine GO_rd (v := .bool _) rfl (wn_none rfl) rfl hpS (fun w hp => (rd_pickF rfl rfl rfl)) ?_
    refine GO_rd (v := .bool _) rfl (wn_none rfl) rfl hpS (fun w hp => (rd_assign rfl rfl)) ?_
    refine GO_nil ?_
    refine GW_ret ?_
    exact ⟨_, res1 Try.results50 (rv_tmp (v := .bool _) rfl rfl), by rw [hno], hp.mods⟩
   ·skip
    refine GC_of_GL ?_
    refine GL_pass (nw_off rfl rfl rfl rfl rfl) rfl (GL_nil ⟨fun _ => hpS, ?_⟩)
    refine GO_of_GL rfl ?_
    refine GL_pass (nw_off rfl rfl rfl rfl rfl) rfl (GL_nil ⟨fun _ => hpS, ?_⟩)
    refine GO_pass rfl (nw_off rfl rfl rfl rfl rfl) rfl hpS ?_
    refine GO_rd (v := .bool _) rfl (wn_none rfl) rfl hpS (fun w hp => (rd_pickF rfl rfl rfl)) ?_
    refine GO_rd (v := .bool _) rfl (wn_none rfl) rfl hpS (fun w hp => (rd_move rfl rfl)) ?_
    refine GO_pass rfl (nw_off rfl rfl rfl rfl rfl) rfl hpS ?_
    refine GO_pass rfl (nw_off rfl rfl rfl rfl rfl) rfl hpS ?_
    refine GO_pass rfl (nw_off rfl rfl rfl rfl rfl) rfl hpS ?_
    refine GO_pass rfl (nw_off rfl rfl rfl rfl rfl) rfl hpS ?_
    refine GO_pass rfl (nw_off rfl rfl rfl rfl rfl) rfl hpS ?_
    refine GO_pass rfl (nw_off rfl rfl rfl rfl rfl) rfl hpS ?_
    refine GO_pass rfl (nw_off rfl rfl rfl rfl rfl) rfl hpS ?_
    refine GO_rd (v := .bool _) rfl (wn_none rfl) rfl hpS (fun w hp => (rd_pickF rfl rfl rfl)) ?_
    refine GO_rd (v := .bool _) rfl (wn_none rfl) rfl hpS (fun w hp => (rd_assign rfl rfl)) ?_
    refine GO_nil ?_
    refine GW_ret ?_
    exact ⟨_, res1 Try.results50 (rv_tmp (v := .bool _) rfl rfl), by rw [hno], hp.mods⟩

theorem leaf_Moved (a : List UInt8) (s : Int) (sv : Value) (b : Int) (n : Nat) (l : List Int) (fr to : Int) (w0 : World) (ha : a.length = 32) (hs : Sl w0 sv 1 n (l.map (Value.int .i64))) (hsz : -9223372036854775808 ≤ s ∧ s ≤ 9223372036854775807) (hn : n ≤ 1000000) : Does Try.prog 46 #[.agg ⟨textC a s sv b⟩, .int .i64 fr, .int .i64 to] w0 fun v w' => ∃ g, v = .tuple #[.agg ⟨textC a s (.slice (some ⟨g, 0, none⟩) n n) b⟩, .bool (metB fr l)] ∧ Hp w0 [] w' [.row 3 1 (.slice (some ⟨g, 0, none⟩) n n) n ((movedL fr to l).map (Value.int .i64))] := by
 obtain ⟨A, c, rfl⟩ := sl_shape hs
 have hnl : l.length = n := by have := hs.len; simpa using this
 have hmle := hs.le
 refine does_of (l := [.agg ⟨textC a s (.slice A n c) b⟩, .int .i64 fr, .int .i64 to]) Try.func46 (by kernel_rfl) rfl Try.ntmps46 rfl rfl ?_
 have hp := Hp.refl w0 []
 refine GW_seq ?_
 refine GW_region ?_
 refine GL_box (wn_none rfl) rfl rfl rfl rfl hp ?_
 intro g w hp
 refine GL_alloc (wn_none rfl) rfl rfl tz72 rfl hp ?_
 intro g2 w hp
 refine GL_rd (v := .bool _) (wn_none rfl) rfl (rd_assign rfl rfl) ?_
 refine GL_nil ?_
 refine GW_seq ?_
 refine GW_region ?_
 refine GL_rd (wn_none rfl) rfl (rd_loadC rfl rfl Try.underlying72 rfl ts72 (hp.get 1 rfl) (textC_length ha _ _ _)) ?_
 refine GL_call (wn_none rfl) rfl rfl (leaf_Copy a s _ b n l _ ha (hs.keep hp.mod) hsz hn) rfl ?_
 rintro _ w ⟨gc, rfl, hk⟩
 have hp := hp.comp hk
 refine GL_alloc (wn_none rfl) rfl rfl tz72 rfl hp ?_
 intro g3 w hp
 refine GL_store (i := 0) (wn_none rfl) rfl rfl rfl rfl ts72 rfl (textC_length ha _ _ _) (textC_one rfl) hp rfl (by decide) (splice_all _ _ (by rw [textC_length ha]; rfl)) ?_
 intro w hp
 refine GL_rd (v := .bool _) (wn_none rfl) rfl (rd_assign rfl rfl) ?_
 refine GL_nil ?_
 refine GW_seq ?_
 refine GW_seq ?_
 refine GW_region ?_
 refine GL_rd (wn_none rfl) rfl (rd_field rfl rfl fa72_2 _ rfl) ?_
 refine GL_rd (v := .slice _ _ _) (wn_none rfl) rfl (rd_load rfl rfl Try.underlying57 rfl ((cell_of_cells (hp.get 0 rfl) _).trans (txt33 ha _ _ _))) ?_
 refine GL_rd (wn_none rfl) rfl (rd_len rfl rfl Try.underlying57) ?_
 refine GL_rd (v := .int _ _) (wn_none rfl) rfl (rd_move rfl rfl) ?_
 refine GL_nil ?_
 refine GW_block ?_
 refine GW_loop ?_
 refine Lp_ind (α := Nat) (fun a_0 f_0 w' => match a_0 with | i => ∃ fz, f_0 = (upd (upd (upd (upd (upd (upd (upd (upd fz 1 (.int .i64 fr)) 2 (.int .i64 to)) 6 (.pointer (some ⟨g2, 0, none⟩))) 8 (.pointer (some ⟨g3, 0, none⟩))) 9 (.bool (metB fr (l.take i)))) 15 (.slice (some ⟨gc, 0, none⟩) n n)) 16 (.int .i64 (n : Int))) 17 (.int .i64 (i : Int))) ∧ Hp w0 [] w' [cells g3 72 (textC a s (.slice (some ⟨gc, 0, none⟩) n n) b), .row 3 1 (.slice (some ⟨gc, 0, none⟩) n n) n ((movedL fr to (l.take i) ++ l.drop i).map (Value.int .i64)), cells g2 72 (List.replicate 32 (.int .u8 0) ++ [.int .i64 0, .slice none 0 0, .int .i64 0])] ∧ (i ≤ n)) (fun a_0 => match a_0 with | i => n - i) ?_ 0 _ _ ?_
 ·rintro i f wz ⟨fz, rfl, hp, hi0⟩ ihL0
  refine Lp_round ?_
  refine GW_seq ?_
  refine GW_region ?_
  refine GL_rd (wn_none rfl) rfl (rd_bin rfl rfl rfl bo_lss) ?_
  refine GL_nil ?_
  refine GW_seq ?_
  refine GW_cond rfl (fun hb => ?_) (fun hb => ?_)
  ·(try simp only [decide_eq_true_eq, decide_eq_false_iff_not, Bool.not_eq_true', Bool.not_eq_false', Bool.not_eq_eq_eq_not, Bool.not_true, Bool.not_false, Int.not_lt, Int.not_le] at hb)
   obtain ⟨y, hy⟩ : ∃ y, l[i]? = some y := ⟨_, List.getElem?_eq_getElem (by omega)⟩
   refine GW_skip ?_
   refine GW_seq ?_
   refine GW_block ?_
   refine GW_seq ?_
   refine GW_region ?_
   refine GL_rd (v := .int _ _) (wn_none rfl) rfl (rd_move rfl rfl) ?_
   refine GL_rd (wn_none rfl) rfl (rd_indexS (j := i) rfl rfl rfl Try.underlying57 ts3 rfl (by omega) _ rfl) ?_
   refine GL_rd (wn_none rfl) rfl (rd_load rfl rfl Try.underlying3 rfl ((Sl.row (hp.get 1 rfl)).get (i * 1) _ (by rw [Nat.mul_one]; exact midI_at hy))) ?_
   refine GL_rd (v := .int _ _) (wn_none rfl) rfl (rd_assign rfl rfl) ?_
   refine GL_rd (v := .int _ _) (wn_none rfl) rfl (rd_assign rfl rfl) ?_
   refine GL_nil ?_
   refine GW_seq ?_
   refine GW_region ?_
   refine GL_rd (v := .int _ _) (wn_none rfl) rfl (rd_move rfl rfl) ?_
   refine GL_rd (v := .int _ _) (wn_none rfl) rfl (rd_move rfl rfl) ?_
   refine GL_rd (wn_none rfl) rfl (rd_bin rfl rfl rfl bo_eql) ?_
   refine GL_nil ?_
   refine GW_cond rfl (fun hb2 => ?_) (fun hb2 => ?_)
   ·(try simp only [decide_eq_true_eq, decide_eq_false_iff_not, Bool.not_eq_true', Bool.not_eq_false', Bool.not_eq_eq_eq_not, Bool.not_true, Bool.not_false, Int.not_lt, Int.not_le] at hb2)
    have hye := hb2
    refine GW_seq ?_
    refine GW_region ?_
    refine GL_rd (wn_none rfl) rfl (rd_field rfl rfl fa72_2 _ rfl) ?_
    refine GL_rd (v := .slice _ _ _) (wn_none rfl) rfl (rd_load rfl rfl Try.underlying57 rfl ((cell_of_cells (hp.get 0 rfl) _).trans (txt33 ha _ _ _))) ?_
    refine GL_rd (v := .int _ _) (wn_none rfl) rfl (rd_move rfl rfl) ?_
    refine GL_rd (v := .int _ _) (wn_none rfl) rfl (rd_move rfl rfl) ?_
    refine GL_rd (wn_none rfl) rfl (rd_indexS (j := i) rfl rfl rfl Try.underlying57 ts3 rfl (by omega) _ rfl) ?_
    refine GL_storeR (i := 1) (wn_none rfl) rfl rfl rfl rfl ts3 rfl rfl (one1 rfl) hp rfl rfl (by rw [midI_len]; omega) (midI_set hy hye) ?_
    intro w hp
    refine GL_nil ?_
    refine GW_region ?_
    refine GL_rd (v := .bool _) (wn_none rfl) rfl (rd_assign rfl rfl) ?_
    refine GL_nil ?_
    refine GW_region ?_
    refine GL_rd (wn_none rfl) rfl (rd_bin rfl rfl rfl (bo_add64 (by omega))) ?_
    refine GL_rd (v := .int _ _) (wn_none rfl) rfl (rd_move rfl rfl) ?_
    refine GL_nil ?_
    have hst : Value.bool true = .bool (metB fr (l.take (i + 1))) := by rw [metB_take hy, decide_eq_true hye, Bool.or_true]
    exact ihL0 (i + 1) _ _ (by simp only []; omega) ⟨_, slots8 rfl rfl rfl rfl hst rfl rfl rfl, hp, by omega⟩
   ·(try simp only [decide_eq_true_eq, decide_eq_false_iff_not, Bool.not_eq_true', Bool.not_eq_false', Bool.not_eq_eq_eq_not, Bool.not_true, Bool.not_false, Int.not_lt, Int.not_le] at hb2)
    have hye := hb2
    refine GW_skip ?_
    refine GW_region ?_
    refine GL_rd (wn_none rfl) rfl (rd_bin rfl rfl rfl (bo_add64 (by omega))) ?_
    refine GL_rd (v := .int _ _) (wn_none rfl) rfl (rd_move rfl rfl) ?_
    refine GL_nil ?_
    have hst : Value.bool (metB fr (l.take i)) = .bool (metB fr (l.take (i + 1))) := by rw [metB_take hy, decide_eq_false hye, Bool.or_false]
    rw [midI_stay hy hye] at hp
    exact ihL0 (i + 1) _ _ (by simp only []; omega) ⟨_, slots8 rfl rfl rfl rfl hst rfl rfl rfl, hp, by omega⟩
  ·(try simp only [decide_eq_true_eq, decide_eq_false_iff_not, Bool.not_eq_true', Bool.not_eq_false', Bool.not_eq_eq_eq_not, Bool.not_true, Bool.not_false, Int.not_lt, Int.not_le] at hb)
   obtain rfl : i = n := by omega
   rw [List.take_of_length_le (by omega), List.drop_of_length_le (by omega), List.append_nil] at hp
   have hmet : metB fr (l.take i) = metB fr l := by rw [List.take_of_length_le (by omega)]
   refine GW_exit ?_
   refine GW_seq ?_
   refine GW_region ?_
   refine GL_rd (wn_none rfl) rfl (rd_loadC rfl rfl Try.underlying72 rfl ts72 (hp.get 0 rfl) (textC_length ha _ _ _)) ?_
   refine GL_rd (v := .bool _) (wn_none rfl) rfl (rd_move rfl rfl) ?_
   refine GL_store (i := 2) (wn_none rfl) rfl rfl rfl rfl ts72 rfl (textC_length ha _ _ _) (textC_one rfl) hp rfl (by decide) (splice_all _ _ (by rw [textC_length ha]; rfl)) ?_
   intro w hp
   refine GL_rd (v := .bool _) (wn_none rfl) rfl (rd_assign rfl rfl) ?_
   refine GL_nil ?_
   refine GW_ret ?_
   refine ⟨_, res2 Try.results46 (rv_cell rfl rfl Try.underlying72 rfl ts72 (textC_length ha _ _ _) (hp.get 2 rfl)) (rv_tmp (v := .bool _) rfl rfl), _, by rw [hmet], hp.sub (.cons _ (.cons_cons _ (.cons _ .slnil)))⟩
 ·have hp := hp.sub (.cons_cons _ (.cons_cons _ (.cons_cons _ (.cons _ .slnil))))
  refine ⟨_, slots8 rfl rfl rfl rfl rfl rfl rfl rfl, hp, Nat.zero_le _⟩

theorem ref_leafMoved (a : List UInt8) (s : Int) (sv : Value) (b : Int) (n : Nat) (l : List Int) (fr to : Int) (w0 : World) (ha : a.length = 32) (hs : Sl w0 sv 1 n (l.map (Value.int .i64))) (hsz : -9223372036854775808 ≤ s ∧ s ≤ 9223372036854775807) (hn : n ≤ 1000000) : Does Try.prog 47 #[.agg ⟨textC a s sv b⟩, .int .i64 fr, .int .i64 to] w0 fun v w' => ∃ sv2, v = .tuple #[.agg ⟨textC a s sv2 b⟩, .bool (metB fr l)] ∧ Hp w0 [] w' [.row 3 1 sv2 n ((movedL fr to l).map (Value.int .i64))] := by
 obtain ⟨A, c, rfl⟩ := sl_shape hs
 have hnl : l.length = n := by have := hs.len; simpa using this
 have hmle := hs.le
 refine does_of (l := [.agg ⟨textC a s (.slice A n c) b⟩, .int .i64 fr, .int .i64 to]) Try.func47 (by kernel_rfl) rfl Try.ntmps47 rfl rfl ?_
 have hp := Hp.refl w0 []
 refine GW_seq ?_
 refine GW_region ?_
 refine GL_box (wn_none rfl) rfl rfl rfl rfl hp ?_
 intro g w hp
 refine GL_alloc (wn_none rfl) rfl rfl tz72 rfl hp ?_
 intro g2 w hp
 refine GL_rd (v := .bool _) (wn_none rfl) rfl (rd_assign rfl rfl) ?_
 refine GL_nil ?_
 refine GW_seq ?_
 refine GW_region ?_
 refine GL_rd (wn_none rfl) rfl (rd_loadC rfl rfl Try.underlying72 rfl ts72 (hp.get 1 rfl) (textC_length ha _ _ _)) ?_
 refine GL_alloc (wn_none rfl) rfl rfl tz72 rfl hp ?_
 intro g3 w hp
 refine GL_store (i := 0) (wn_none rfl) rfl rfl rfl rfl ts72 rfl (textC_length ha _ _ _) (textC_one rfl) hp rfl (by decide) (splice_all _ _ (by rw [textC_length ha]; rfl)) ?_
 intro w hp
 refine GL_nil ?_
 refine GW_seq ?_
 refine GW_region ?_
 refine GL_rd (wn_none rfl) rfl (rd_field rfl rfl fa72_2 _ rfl) ?_
 refine GL_store (i := 0) (wn_none rfl) rfl rfl rfl rfl ts57 rfl rfl (one1 rfl) hp rfl (by rw [textC_length ha]; decide) (txt_set ha _ _ _ _) ?_
 intro w hp
 refine GL_nil ?_
 refine GW_seq ?_
 refine GW_region ?_
 refine GL_rd (v := .bool _) (wn_none rfl) rfl (rd_assign rfl rfl) ?_
 refine GL_nil ?_
 refine GW_seq ?_
 refine GW_seq ?_
 refine GW_region ?_
 refine GL_rd (v := .int _ _) (wn_none rfl) rfl (rd_assign rfl rfl) ?_
 refine GL_nil ?_
 refine GW_block ?_
 refine GW_loop ?_
 refine Lp_ind (α := Nat × Value) (fun a_0 f_0 w' => match a_0 with | (i, v) => ∃ fz, f_0 = (upd (upd (upd (upd (upd (upd (upd fz 1 (.int .i64 fr)) 2 (.int .i64 to)) 3 (.pointer (some ⟨g, 0, none⟩))) 6 (.pointer (some ⟨g2, 0, none⟩))) 8 (.pointer (some ⟨g3, 0, none⟩))) 9 (.bool (metB fr (l.take i)))) 10 (.int .i64 (i : Int))) ∧ Hp w0 [] w' [.row 3 1 v i ((movedL fr to (l.take i)).map (Value.int .i64)), cells g3 72 (textC a s v b), cells g2 72 (List.replicate 32 (.int .u8 0) ++ [.int .i64 0, .slice none 0 0, .int .i64 0]), cells g 72 (textC a s (.slice A n c) b)] ∧ (i ≤ n)) (fun a_0 => match a_0 with | (i, v) => n - i) ?_ (0, .slice none 0 0) _ _ ?_
 ·rintro ⟨i, v⟩ f wz ⟨fz, rfl, hp, hi0⟩ ihL0
  refine Lp_round ?_
  refine GW_seq ?_
  refine GW_seq ?_
  refine GW_region ?_
  refine GL_rd (v := .int _ _) (wn_none rfl) rfl (rd_move rfl rfl) ?_
  refine GL_rd (wn_none rfl) rfl (rd_field rfl rfl fa72_2 _ rfl) ?_
  refine GL_rd (v := .slice _ _ _) (wn_none rfl) rfl (rd_load rfl rfl Try.underlying57 rfl ((cell_of_cells (hp.get 3 rfl) _).trans (txt33 ha _ _ _))) ?_
  refine GL_rd (wn_none rfl) rfl (rd_len rfl rfl Try.underlying57) ?_
  refine GL_rd (wn_none rfl) rfl (rd_bin rfl rfl rfl bo_lss) ?_
  refine GL_nil ?_
  refine GW_cond rfl (fun hb => ?_) (fun hb => ?_)
  ·(try simp only [decide_eq_true_eq, decide_eq_false_iff_not, Bool.not_eq_true', Bool.not_eq_false', Bool.not_eq_eq_eq_not, Bool.not_true, Bool.not_false, Int.not_lt, Int.not_le] at hb)
   obtain ⟨y, hy⟩ : ∃ y, l[i]? = some y := ⟨_, List.getElem?_eq_getElem (by omega)⟩
   obtain ⟨gA, bA, rfl⟩ := hs.addr (by rw [List.length_map]; omega)
   refine GW_skip ?_
   refine GW_seq ?_
   refine GW_block ?_
   refine GW_seq ?_
   refine GW_region ?_
   refine GL_rd (wn_none rfl) rfl (rd_field rfl rfl fa72_2 _ rfl) ?_
   refine GL_rd (v := .slice _ _ _) (wn_none rfl) rfl (rd_load rfl rfl Try.underlying57 rfl ((cell_of_cells (hp.get 3 rfl) _).trans (txt33 ha _ _ _))) ?_
   refine GL_rd (v := .int _ _) (wn_none rfl) rfl (rd_move rfl rfl) ?_
   refine GL_rd (wn_none rfl) rfl (rd_indexS (j := i) rfl rfl rfl Try.underlying57 ts3 rfl (by omega) _ rfl) ?_
   refine GL_rd (wn_none rfl) rfl (rd_load rfl rfl Try.underlying3 rfl ((hs.keep hp.mod).get (i * 1) _ (by rw [Nat.mul_one, List.getElem?_map, hy]; rfl))) ?_
   refine GL_rd (v := .int _ _) (wn_none rfl) rfl (rd_move rfl rfl) ?_
   refine GL_rd (wn_none rfl) rfl (rd_bin rfl rfl rfl bo_eql) ?_
   refine GL_nil ?_
   refine GW_cond rfl (fun hb2 => ?_) (fun hb2 => ?_)
   ·(try simp only [decide_eq_true_eq, decide_eq_false_iff_not, Bool.not_eq_true', Bool.not_eq_false', Bool.not_eq_eq_eq_not, Bool.not_true, Bool.not_false, Int.not_lt, Int.not_le] at hb2)
    have hye := hb2
    refine GW_seq ?_
    refine GW_region ?_
    refine GL_rd (wn_none rfl) rfl (rd_field rfl rfl fa72_2 _ rfl) ?_
    refine GL_rd (wn_none rfl) rfl (rd_load rfl rfl Try.underlying57 rfl ((cell_of_cells (hp.get 1 rfl) _).trans (txt33 ha _ _ _))) ?_
    refine GL_rd (v := .int _ _) (wn_none rfl) rfl (rd_move rfl rfl) ?_
    refine GL_lit (L := [.int .i64 to]) (wn_none rfl) rfl rfl Try.underlying57 ts3 tz3 rfl (by kernel_rfl) rfl rfl hp ?_
    intro g4 w hp
    refine GL_append (i := 1) (wn_none rfl) rfl rfl rfl rfl Try.underlying57 ti3 rfl (by decide) hp rfl (Sl.row (hp.get 0 rfl)) (one1 rfl) (by omega) (by omega) ?_
    intro v w hp
    obtain ⟨Av, cv, rfl⟩ := row_shape (hp.get 1 rfl)
    refine GL_rd (wn_none rfl) rfl (rd_field rfl rfl fa72_2 _ rfl) ?_
    refine GL_store (i := 2) (wn_none rfl) rfl rfl rfl rfl ts57 rfl rfl (one1 rfl) hp rfl (by rw [textC_length ha]; decide) (txt_set ha _ _ _ _) ?_
    intro w hp
    refine GL_nil ?_
    refine GW_region ?_
    refine GL_rd (v := .bool _) (wn_none rfl) rfl (rd_assign rfl rfl) ?_
    refine GL_nil ?_
    refine GW_region ?_
    refine GL_rd (v := .int _ _) (wn_none rfl) rfl (rd_move rfl rfl) ?_
    refine GL_rd (wn_none rfl) rfl (rd_bin rfl rfl rfl (bo_add64 (by omega))) ?_
    refine GL_rd (v := .int _ _) (wn_none rfl) rfl (rd_assign rfl rfl) ?_
    refine GL_nil ?_
    have hst : Value.bool true = .bool (metB fr (l.take (i + 1))) := by rw [metB_take hy, decide_eq_true hye, Bool.or_true]
    have hp := hp.drop 1
    have hp : Hp w0 [] w [.row 3 1 (.slice Av (i + 1) cv) (i + 1) ((movedL fr to (l.take (i + 1))).map (Value.int .i64)), cells g3 72 (textC a s (.slice Av (i + 1) cv) b), cells g2 72 (List.replicate 32 (.int .u8 0) ++ [.int .i64 0, .slice none 0 0, .int .i64 0]), cells g 72 (textC a s (.slice (some ⟨gA, bA, none⟩) n c) b)] := by rw [movedL_take hy, mvI, if_pos hye, List.map_append]; exact hp
    exact ihL0 (i + 1, .slice Av (i + 1) cv) _ _ (by simp only []; omega) ⟨_, slots7 rfl rfl rfl rfl rfl hst rfl, hp, by omega⟩
   ·(try simp only [decide_eq_true_eq, decide_eq_false_iff_not, Bool.not_eq_true', Bool.not_eq_false', Bool.not_eq_eq_eq_not, Bool.not_true, Bool.not_false, Int.not_lt, Int.not_le] at hb2)
    have hye := hb2
    refine GW_drawnK 10 (.one 0 true (.one 1 true (.one 2 true (.one 3 true (.one 4 true (.one 5 true (.one 6 true (.one 7 false (.one 8 false (.one 9 true (.one 10 false .nil))))))))))) mixed (by kernel_rfl) hp (fun _ h => (h.sub (.cons _ (.cons_cons _ (.cons _ (.cons_cons _ .slnil)))))) fun w hp => ?_
    have hpS := (hp.sub (.cons _ (.cons_cons _ (.cons _ (.cons_cons _ .slnil)))))
    refine GO_rd rfl (wn_none rfl) rfl hpS (fun w hp => (rd_field rfl rfl fa72_2 _ rfl)) ?_
    refine GO_rd rfl (wn_none rfl) rfl hpS (fun w hp => (rd_load rfl rfl Try.underlying57 rfl ((cell_of_cells (hp.get 0 rfl) _).trans (txt33 ha _ _ _)))) ?_
    refine GO_rd rfl (wn_none rfl) rfl hpS (fun w hp => (rd_field rfl rfl fa72_2 _ rfl)) ?_
    refine GO_rd (v := .slice _ _ _) rfl (wn_none rfl) rfl hpS (fun w hp => (rd_load rfl rfl Try.underlying57 rfl ((cell_of_cells (hp.get 1 rfl) _).trans (txt33 ha _ _ _)))) ?_
    refine GO_rd (v := .int _ _) rfl (wn_none rfl) rfl hpS (fun w hp => (rd_move rfl rfl)) ?_
    refine GO_rd rfl (wn_none rfl) rfl hpS (fun w hp => (rd_indexS (j := i) rfl rfl rfl Try.underlying57 ts3 rfl (by omega) _ rfl)) ?_
    refine GO_rd rfl (wn_none rfl) rfl hpS (fun w hp => (rd_load rfl rfl Try.underlying3 rfl ((hs.keep hp.mod).get (i * 1) _ (by rw [Nat.mul_one, List.getElem?_map, hy]; rfl)))) ?_
    refine GO_of_GL rfl ?_
    refine GL_lit (L := [.int .i64 y]) (wn_none rfl) rfl rfl Try.underlying57 ts3 tz3 rfl (by kernel_rfl) rfl rfl hp ?_
    intro g5 w hp
    have hpS2 := (hp.sub (.cons _ (.cons _ (.cons_cons _ (.cons _ (.cons_cons _ .slnil))))))
    refine GL_nil ⟨fun _ => hpS2, ?_⟩
    refine GO_of_GL rfl ?_
    refine GL_append (i := 1) (wn_none rfl) rfl rfl rfl rfl Try.underlying57 ti3 rfl (by decide) hp rfl (Sl.row (hp.get 0 rfl)) (one1 rfl) (by omega) (by omega) ?_
    intro v2 w hp
    obtain ⟨Av2, cv2, rfl⟩ := row_shape (hp.get 1 rfl)
    have hpS3 := (hp.sub (.cons _ (.cons _ (.cons_cons _ (.cons _ (.cons_cons _ .slnil))))))
    refine GL_nil ⟨fun _ => hpS3, ?_⟩
    refine GO_rd rfl (wn_none rfl) rfl hpS3 (fun w hp => (rd_field rfl rfl fa72_2 _ rfl)) ?_
    refine GO_of_GL rfl ?_
    refine GL_store (i := 2) (wn_none rfl) rfl rfl rfl rfl ts57 rfl rfl (one1 rfl) hp rfl (by rw [textC_length ha]; decide) (txt_set ha _ _ _ _) ?_
    intro w hp
    refine GL_nil ⟨fun h => absurd h (by decide), ?_⟩
    refine GO_nil ?_
    refine GW_region ?_
    refine GL_rd (v := .int _ _) (wn_none rfl) rfl (rd_move rfl rfl) ?_
    refine GL_rd (wn_none rfl) rfl (rd_bin rfl rfl rfl (bo_add64 (by omega))) ?_
    refine GL_rd (v := .int _ _) (wn_none rfl) rfl (rd_assign rfl rfl) ?_
    refine GL_nil ?_
    have hst : Value.bool (metB fr (l.take i)) = .bool (metB fr (l.take (i + 1))) := by rw [metB_take hy, decide_eq_false hye, Bool.or_false]
    have hp := hp.drop 1
    have hp : Hp w0 [] w [.row 3 1 (.slice Av2 (i + 1) cv2) (i + 1) ((movedL fr to (l.take (i + 1))).map (Value.int .i64)), cells g3 72 (textC a s (.slice Av2 (i + 1) cv2) b), cells g2 72 (List.replicate 32 (.int .u8 0) ++ [.int .i64 0, .slice none 0 0, .int .i64 0]), cells g 72 (textC a s (.slice (some ⟨gA, bA, none⟩) n c) b)] := by rw [movedL_take hy, mvI, if_neg hye, List.map_append]; exact hp
    exact ihL0 (i + 1, .slice Av2 (i + 1) cv2) _ _ (by simp only []; omega) ⟨_, slots7 rfl rfl rfl rfl rfl hst rfl, hp, by omega⟩
  ·(try simp only [decide_eq_true_eq, decide_eq_false_iff_not, Bool.not_eq_true', Bool.not_eq_false', Bool.not_eq_eq_eq_not, Bool.not_true, Bool.not_false, Int.not_lt, Int.not_le] at hb)
   obtain ⟨Az, cz, rfl⟩ := row_shape (hp.get 0 rfl)
   obtain rfl : i = n := by omega
   rw [List.take_of_length_le (by omega)] at hp
   have hmet : metB fr (l.take i) = metB fr l := by rw [List.take_of_length_le (by omega)]
   refine GW_exit ?_
   refine GW_seq ?_
   refine GW_region ?_
   refine GL_rd (wn_none rfl) rfl (rd_loadC rfl rfl Try.underlying72 rfl ts72 (hp.get 1 rfl) (textC_length ha _ _ _)) ?_
   refine GL_rd (v := .bool _) (wn_none rfl) rfl (rd_move rfl rfl) ?_
   refine GL_store (i := 2) (wn_none rfl) rfl rfl rfl rfl ts72 rfl (textC_length ha _ _ _) (textC_one rfl) hp rfl (by decide) (splice_all _ _ (by rw [textC_length ha]; rfl)) ?_
   intro w hp
   refine GL_rd (v := .bool _) (wn_none rfl) rfl (rd_assign rfl rfl) ?_
   refine GL_nil ?_
   refine GW_ret ?_
   refine ⟨_, res2 Try.results47 (rv_cell rfl rfl Try.underlying72 rfl ts72 (textC_length ha _ _ _) (hp.get 2 rfl)) (rv_tmp (v := .bool _) rfl rfl), _, by rw [hmet], hp.sub (.cons_cons _ (.cons _ (.cons _ (.cons _ .slnil))))⟩
 ·have hp := hp.nilRow 3 1
  refine ⟨_, slots7 rfl rfl rfl rfl rfl rfl rfl, hp, Nat.zero_le _⟩

theorem leaf_Put (a : List UInt8) (s : Int) (sv : Value) (b : Int) (n : Nat) (l : List Int) (w0 : World) (ha : a.length = 32) (hs : Sl w0 sv 1 n (l.map (Value.int .i64))) (hsz : -9223372036854775808 ≤ s ∧ s ≤ 9223372036854775807) : Does Try.prog 44 #[.agg ⟨textC a s sv b⟩] w0 fun v w' => v = .tuple #[.agg ⟨bys (leafS a s l b)⟩, .int .i64 (leafC s l b 200)] ∧ Hp w0 [] w' [] := by
 obtain ⟨A, c, rfl⟩ := sl_shape hs
 have hnl : l.length = n := by have := hs.len; simpa using this
 have hmle := hs.le
 refine does_of (l := [.agg ⟨textC a s (.slice A n c) b⟩]) Try.func44 (by kernel_rfl) rfl Try.ntmps44 rfl rfl ?_
 have hp := Hp.refl w0 []
 refine GW_seq ?_
 refine GW_region ?_
 refine GL_box (wn_none rfl) rfl rfl rfl rfl hp ?_
 intro g w hp
 refine GL_alloc (wn_none rfl) rfl rfl tz67 rfl hp ?_
 intro g2 w hp
 refine GL_rd (v := .int _ _) (wn_none rfl) rfl (rd_assign rfl rfl) ?_
 refine GL_nil ?_
 refine GW_seq ?_
 refine GW_seq ?_
 refine GW_region ?_
 refine GL_rd (wn_none rfl) rfl (rd_loadC rfl rfl Try.underlying72 rfl ts72 (hp.get 1 rfl) (textC_length ha _ _ _)) ?_
 refine GL_call (wn_none rfl) rfl rfl (leaf_Check a s _ b n l 200 _ ha (hs.keep hp.mod) hsz) rfl ?_
 rintro _ w ⟨rfl, hk⟩
 have hp := hp.comp hk
 refine GL_rd (v := .int _ _) (wn_none rfl) rfl (rd_assign rfl rfl) ?_
 refine GL_nil ?_
 refine GW_seq ?_
 refine GW_region ?_
 refine GL_rd (v := .int _ _) (wn_none rfl) rfl (rd_move rfl rfl) ?_
 refine GL_rd (wn_none rfl) rfl (rd_bin rfl rfl rfl bo_neq) ?_
 refine GL_nil ?_
 refine GW_cond rfl (fun hb => ?_) (fun hb => ?_)
 ·(try simp only [decide_eq_true_eq, decide_eq_false_iff_not, Bool.not_eq_true', Bool.not_eq_false', Bool.not_eq_eq_eq_not, Bool.not_true, Bool.not_false, Int.not_lt, Int.not_le] at hb)
  have hno : ¬ leafC s l b 200 = 0 := hb
  refine GW_seq ?_
  refine GW_region ?_
  refine GL_rd (wn_none rfl) rfl (rd_buildA (L := List.replicate 256 (.int .u8 0)) rfl tz67 Try.underlying67 ts5 (by kernel_rfl)) ?_
  refine GL_rd (v := .int _ _) (wn_none rfl) rfl (rd_move rfl rfl) ?_
  refine GL_store (i := 0) (wn_none rfl) rfl rfl rfl rfl ts67 rfl List.length_replicate (by intro u hu; rw [List.eq_of_mem_replicate hu]; rfl) hp rfl (by rw [List.length_replicate]; decide) (splice_all _ _ rfl) ?_
  intro w hp
  refine GL_rd (v := .int _ _) (wn_none rfl) rfl (rd_assign rfl rfl) ?_
  refine GL_nil ?_
  refine GW_ret ?_
  exact ⟨_, res2 Try.results44 (rv_cell rfl rfl Try.underlying67 rfl ts67 (by first | rw [bys_length, leafS_length] | exact List.length_replicate) (hp.get 0 rfl)) (rv_tmp (v := .int _ _) rfl rfl), by rw [leafS_no hno, bys_replicate] <;> rfl, hp.mods⟩
 ·(try simp only [decide_eq_true_eq, decide_eq_false_iff_not, Bool.not_eq_true', Bool.not_eq_false', Bool.not_eq_eq_eq_not, Bool.not_true, Bool.not_false, Int.not_lt, Int.not_le] at hb)
  have hok := hb
  have hok2 := leafC_zero.1 hok
  have hl8 := leafC_len hok
  refine GW_skip ?_
  refine GW_seq ?_
  refine GW_region ?_
  refine GL_lit (L := bys [76, 69, 65, 70]) (wn_none rfl) rfl rfl Try.underlying42 ts5 tz5 rfl (by kernel_rfl) rfl rfl hp ?_
  intro g3 w hp
  refine GL_convB (i := 0) (wn_none rfl) rfl rfl rfl Try.underlying42 Try.underlying5 hp rfl ?_
  intro w hp
  refine GL_rd (wn_none rfl) rfl (rd_field rfl rfl fa72_0 _ rfl) ?_
  refine GL_rd (wn_none rfl) rfl (rd_sliceA (lo := 0) (hi := 32) rfl rfl Try.underlying70 ts5 at_none to_none (by decide) (by decide) (by decide) _ rfl) ?_
  refine GL_appendFull (wn_none rfl) rfl rfl rfl rfl Try.underlying42 ti5 rfl (by decide) hp (Sl.blk (hp.get 0 rfl) 1 _ rfl (by simp [maxLen])) (Sl.cells (hp.get 2 rfl) 1 32 32 0 (bys a) (txt_addr ha _ _ _) (by rw [textC_length ha]; decide) (by decide) (by decide)) (by omega) (by decide) (by omega) (by omega) (by omega) ?_
  intro v w hp
  rw [← bys_append] at hp
  refine GL_rd (v := v) (wn_none rfl) rfl (rd_assign rfl rfl) ?_
  refine GL_nil ?_
  refine GW_seq ?_
  refine GW_region ?_
  refine GL_rd (v := v) (wn_none rfl) rfl (rd_move rfl rfl) ?_
  refine GL_rd (wn_none rfl) rfl (rd_field rfl rfl fa72_1 _ rfl) ?_
  refine GL_rd (wn_none rfl) rfl (rd_load rfl rfl Try.underlying3 rfl ((cell_of_cells (hp.get 3 rfl) _).trans (txt32 ha _ _ _))) ?_
  refine GL_rd (wn_none rfl) rfl (rd_convE (q := (s.toNat : Int)) rfl rfl Try.underlying165 Try.underlying3 (by simp) (by rw [IntWalk.u64_in _ (by omega)]; omega)) ?_
  refine GL_call (wn_none rfl) rfl rfl (word_Put s.toNat 2 _ (by omega) (by decide)) rfl ?_
  rintro _ w ⟨q, rfl, hk⟩
  have hp := hp.comp hk
  refine GL_append (i := 1) (wn_none rfl) rfl rfl rfl rfl Try.underlying42 ti5 rfl (by decide) hp rfl (Sl.row (hp.get 0 rfl)) (bys_one _) (by omega) (by omega) ?_
  intro v2 w hp
  rw [← bys_append] at hp
  refine GL_rd (v := v2) (wn_none rfl) rfl (rd_assign rfl rfl) ?_
  refine GL_nil ?_
  refine GW_seq ?_
  refine GW_region ?_
  refine GL_rd (v := v2) (wn_none rfl) rfl (rd_move rfl rfl) ?_
  refine GL_rd (wn_none rfl) rfl (rd_field rfl rfl fa72_3 _ rfl) ?_
  refine GL_rd (wn_none rfl) rfl (rd_load rfl rfl Try.underlying3 rfl ((cell_of_cells (hp.get 4 rfl) _).trans (txt34 ha _ _ _))) ?_
  refine GL_rd (wn_none rfl) rfl (rd_convE (q := (b.toNat : Int)) rfl rfl Try.underlying165 Try.underlying3 (by simp) (by rw [IntWalk.u64_in _ (by omega)]; omega)) ?_
  refine GL_call (wn_none rfl) rfl rfl (word_Put b.toNat 2 _ (by omega) (by decide)) rfl ?_
  rintro _ w ⟨q2, rfl, hk⟩
  have hp := hp.comp hk
  refine GL_append (i := 2) (wn_none rfl) rfl rfl rfl rfl Try.underlying42 ti5 rfl (by decide) hp rfl (Sl.row (hp.get 0 rfl)) (bys_one _) (by omega) (by omega) ?_
  intro v3 w hp
  rw [← bys_append] at hp
  refine GL_rd (v := v3) (wn_none rfl) rfl (rd_assign rfl rfl) ?_
  refine GL_nil ?_
  refine GW_seq ?_
  refine GW_seq ?_
  refine GW_region ?_
  refine GL_rd (wn_none rfl) rfl (rd_field rfl rfl fa72_2 _ rfl) ?_
  refine GL_rd (v := .slice _ _ _) (wn_none rfl) rfl (rd_load rfl rfl Try.underlying57 rfl ((cell_of_cells (hp.get 5 rfl) _).trans (txt33 ha _ _ _))) ?_
  refine GL_rd (wn_none rfl) rfl (rd_len rfl rfl Try.underlying57) ?_
  refine GL_rd (v := .int _ _) (wn_none rfl) rfl (rd_move rfl rfl) ?_
  refine GL_nil ?_
  refine GW_block ?_
  refine GW_loop ?_
  refine Lp_ind (α := Nat × Value) (fun a_0 f_0 w' => match a_0 with | (i, v) => ∃ fz, f_0 = (upd (upd (upd (upd (upd fz 2 (.pointer (some ⟨g2, 0, none⟩))) 5 (v)) 33 (.slice A n c)) 34 (.int .i64 (n : Int))) 35 (.int .i64 (i : Int))) ∧ Hp w0 [] w' [.row 5 1 v (40 + i) (bys (leafB a s b (l.take i))), cells g2 67 (List.replicate 256 (.int .u8 0)), cells g 72 (textC a s (.slice A n c) b)] ∧ (i ≤ n)) (fun a_0 => match a_0 with | (i, v) => n - i) ?_ (0, v3) _ _ ?_
  ·rintro ⟨i, v⟩ f wz ⟨fz, rfl, hp, hi0⟩ ihL0
   refine Lp_round ?_
   refine GW_seq ?_
   refine GW_region ?_
   refine GL_rd (wn_none rfl) rfl (rd_bin rfl rfl rfl bo_lss) ?_
   refine GL_nil ?_
   refine GW_seq ?_
   refine GW_cond rfl (fun hb2 => ?_) (fun hb2 => ?_)
   ·(try simp only [decide_eq_true_eq, decide_eq_false_iff_not, Bool.not_eq_true', Bool.not_eq_false', Bool.not_eq_eq_eq_not, Bool.not_true, Bool.not_false, Int.not_lt, Int.not_le] at hb2)
    obtain ⟨y, hy⟩ : ∃ y, l[i]? = some y := ⟨_, List.getElem?_eq_getElem (by omega)⟩
    obtain ⟨gA, bA, rfl⟩ := hs.addr (by rw [List.length_map]; omega)
    refine GW_skip ?_
    refine GW_seq ?_
    refine GW_block ?_
    refine GW_seq ?_
    refine GW_region ?_
    refine GL_rd (wn_none rfl) rfl (rd_indexS (j := i) rfl rfl rfl Try.underlying57 ts3 rfl (by omega) _ rfl) ?_
    refine GL_rd (wn_none rfl) rfl (rd_load rfl rfl Try.underlying3 rfl ((hs.keep hp.mod).get (i * 1) _ (by rw [Nat.mul_one, List.getElem?_map, hy]; rfl))) ?_
    refine GL_rd (v := .int _ _) (wn_none rfl) rfl (rd_assign rfl rfl) ?_
    refine GL_nil ?_
    refine GW_region ?_
    refine GL_rd (v := v) (wn_none rfl) rfl (rd_move rfl rfl) ?_
    refine GL_rd (v := .int _ _) (wn_none rfl) rfl (rd_move rfl rfl) ?_
    refine GL_rd (wn_none rfl) rfl (rd_convE (q := ((slotB y).toNat : Int)) rfl rfl Try.underlying5 Try.underlying3 (by simp) (slotB_wrap (all_get hok2.2.2.2.2.2 hy))) ?_
    refine GL_lit (L := [.int .u8 ((slotB y).toNat : Int)]) (wn_none rfl) rfl rfl Try.underlying42 ts5 tz5 rfl (by kernel_rfl) rfl rfl hp ?_
    intro g4 w hp
    refine GL_append (i := 1) (wn_none rfl) rfl rfl rfl rfl Try.underlying42 ti5 rfl (by decide) hp rfl (Sl.row (hp.get 0 rfl)) (one1 rfl) (by omega) (by omega) ?_
    intro v4 w hp
    refine GL_rd (v := v4) (wn_none rfl) rfl (rd_assign rfl rfl) ?_
    refine GL_nil ?_
    refine GW_region ?_
    refine GL_rd (wn_none rfl) rfl (rd_bin rfl rfl rfl (bo_add64 (by omega))) ?_
    refine GL_rd (v := .int _ _) (wn_none rfl) rfl (rd_move rfl rfl) ?_
    refine GL_nil ?_
    have hp := ((((hp.front 3 rfl).front 3 rfl).front 3 rfl).take 3)
    have hp : Hp w0 [] w [.row 5 1 v4 (40 + (i + 1)) (bys (leafB a s b (l.take (i + 1)))), cells g2 67 (List.replicate 256 (.int .u8 0)), cells g 72 (textC a s (.slice (some ⟨gA, bA, none⟩) n c) b)] := by rw [← leafB_snoc hy]; exact hp
    exact ihL0 (i + 1, v4) _ _ (by simp only []; omega) ⟨_, slots5 rfl rfl rfl rfl rfl, hp, by omega⟩
   ·(try simp only [decide_eq_true_eq, decide_eq_false_iff_not, Bool.not_eq_true', Bool.not_eq_false', Bool.not_eq_eq_eq_not, Bool.not_true, Bool.not_false, Int.not_lt, Int.not_le] at hb2)
    obtain rfl : i = n := by omega
    rw [List.take_of_length_le (by omega)] at hp
    refine GW_exit ?_
    refine GW_seq ?_
    refine GW_region ?_
    refine GL_rd (v := v) (wn_none rfl) rfl (rd_move rfl rfl) ?_
    refine GL_call (wn_none rfl) rfl rfl (word_Whole _ _ (leafB a s b l) _ (Sl.row (hp.get 0 rfl))) rfl ?_
    rintro _ w ⟨rfl, hk⟩
    have hp := hp.comp hk
    refine GL_alloc (wn_none rfl) rfl rfl tz67 rfl hp ?_
    intro g5 w hp
    refine GL_store (i := 0) (wn_none rfl) rfl rfl rfl rfl ts67 rfl (by rw [bys_length, wholeL_length]) (bys_one _) hp rfl (by rw [List.length_replicate]; omega) (splice_all _ _ (by rw [bys_length, wholeL_length, List.length_replicate])) ?_
    intro w hp
    refine GL_nil ?_
    refine GW_seq ?_
    refine GW_region ?_
    refine GL_rd (wn_none rfl) rfl (rd_sliceA (lo := 0) (hi := 252) rfl rfl Try.underlying67 ts5 at_none (at_some rfl rfl) (by decide) (by decide) (by decide) _ rfl) ?_
    refine GL_call (wn_none rfl) rfl rfl (crc_Sealed _ 252 ((wholeL (leafB a s b l)).take 252) _ (Sl.cells (hp.get 0 rfl) 1 252 256 0 (bys ((wholeL (leafB a s b l)).take 252)) (by rw [List.drop_zero, Nat.mul_one]; exact (bys_take _ _).symm) (by rw [bys_length, wholeL_length]; decide) (by decide) (by decide)) (by decide)) rfl ?_
    intro vS w hk
    have hp := hp.comp hk
    refine GL_call (wn_none rfl) rfl rfl (word_Whole _ _ _ _ (Sl.row (hp.get 0 rfl))) rfl ?_
    rintro _ w ⟨rfl, hk⟩
    have hp := hp.comp hk
    refine GL_store (i := 3) (wn_none rfl) rfl rfl rfl rfl ts67 rfl (by rw [bys_length, wholeL_length]) (bys_one _) hp rfl (by rw [List.length_replicate]; omega) ((splice_all _ _ (by rw [bys_length, wholeL_length, List.length_replicate])).trans (by rw [leaf_made ha hok])) ?_
    intro w hp
    refine GL_rd (v := .int _ _) (wn_none rfl) rfl (rd_assign rfl rfl) ?_
    refine GL_nil ?_
    refine GW_ret ?_
    exact ⟨_, res2 Try.results44 (rv_cell rfl rfl Try.underlying67 rfl ts67 (by first | rw [bys_length, leafS_length] | exact List.length_replicate) (hp.get 3 rfl)) (rv_tmp (v := .int _ _) rfl rfl), by rw [hok], hp.mods⟩
  ·have hp := ((((hp.front 5 rfl).front 5 rfl).front 4 rfl).take 3)
   have hp : Hp w0 [] w [.row 5 1 v3 (40 + 0) (bys (leafB a s b (l.take 0))), cells g2 67 (List.replicate 256 (.int .u8 0)), cells g 72 (textC a s (.slice A n c) b)] := by rw [← leafB_none]; exact hp
   refine ⟨_, slots5 rfl rfl rfl rfl rfl, hp, Nat.zero_le _⟩

theorem ref_leafPut (a : List UInt8) (s : Int) (sv : Value) (b : Int) (n : Nat) (l : List Int) (w0 : World) (ha : a.length = 32) (hs : Sl w0 sv 1 n (l.map (Value.int .i64))) (hsz : -9223372036854775808 ≤ s ∧ s ≤ 9223372036854775807) : Does Try.prog 45 #[.agg ⟨textC a s sv b⟩] w0 fun v w' => v = .tuple #[.agg ⟨bys (leafS a s l b)⟩, .int .i64 (leafC s l b 200)] ∧ Hp w0 [] w' [] := by
 obtain ⟨A, c, rfl⟩ := sl_shape hs
 have hnl : l.length = n := by have := hs.len; simpa using this
 have hmle := hs.le
 refine does_of (l := [.agg ⟨textC a s (.slice A n c) b⟩]) Try.func45 (by kernel_rfl) rfl Try.ntmps45 rfl rfl ?_
 have hp := Hp.refl w0 []
 refine GW_seq ?_
 refine GW_region ?_
 refine GL_box (wn_none rfl) rfl rfl rfl rfl hp ?_
 intro g w hp
 refine GL_alloc (wn_none rfl) rfl rfl tz67 rfl hp ?_
 intro g2 w hp
 refine GL_rd (v := .int _ _) (wn_none rfl) rfl (rd_assign rfl rfl) ?_
 refine GL_nil ?_
 refine GW_seq ?_
 refine GW_seq ?_
 refine GW_region ?_
 refine GL_rd (wn_none rfl) rfl (rd_loadC rfl rfl Try.underlying72 rfl ts72 (hp.get 1 rfl) (textC_length ha _ _ _)) ?_
 refine GL_call (wn_none rfl) rfl rfl (ref_leafCheck a s _ b n l 200 _ ha (hs.keep hp.mod) hsz) rfl ?_
 rintro _ w ⟨rfl, hk⟩
 have hp := hp.comp hk
 refine GL_rd (v := .int _ _) (wn_none rfl) rfl (rd_assign rfl rfl) ?_
 refine GL_nil ?_
 refine GW_seq ?_
 refine GW_region ?_
 refine GL_rd (v := .int _ _) (wn_none rfl) rfl (rd_move rfl rfl) ?_
 refine GL_rd (wn_none rfl) rfl (rd_bin rfl rfl rfl bo_neq) ?_
 refine GL_nil ?_
 refine GW_cond rfl (fun hb => ?_) (fun hb => ?_)
 ·(try simp only [decide_eq_true_eq, decide_eq_false_iff_not, Bool.not_eq_true', Bool.not_eq_false', Bool.not_eq_eq_eq_not, Bool.not_true, Bool.not_false, Int.not_lt, Int.not_le] at hb)
  have hno : ¬ leafC s l b 200 = 0 := hb
  refine GW_seq ?_
  refine GW_region ?_
  refine GL_rd (wn_none rfl) rfl (rd_buildA (L := List.replicate 256 (.int .u8 0)) rfl tz67 Try.underlying67 ts5 (by kernel_rfl)) ?_
  refine GL_rd (v := .int _ _) (wn_none rfl) rfl (rd_move rfl rfl) ?_
  refine GL_store (i := 0) (wn_none rfl) rfl rfl rfl rfl ts67 rfl List.length_replicate (by intro u hu; rw [List.eq_of_mem_replicate hu]; rfl) hp rfl (by rw [List.length_replicate]; decide) (splice_all _ _ rfl) ?_
  intro w hp
  refine GL_rd (v := .int _ _) (wn_none rfl) rfl (rd_assign rfl rfl) ?_
  refine GL_nil ?_
  refine GW_ret ?_
  exact ⟨_, res2 Try.results45 (rv_cell rfl rfl Try.underlying67 rfl ts67 (by first | rw [bys_length, leafS_length] | exact List.length_replicate) (hp.get 0 rfl)) (rv_tmp (v := .int _ _) rfl rfl), by rw [leafS_no hno, bys_replicate] <;> rfl, hp.mods⟩
 ·(try simp only [decide_eq_true_eq, decide_eq_false_iff_not, Bool.not_eq_true', Bool.not_eq_false', Bool.not_eq_eq_eq_not, Bool.not_true, Bool.not_false, Int.not_lt, Int.not_le] at hb)
  have hok := hb
  have hok2 := leafC_zero.1 hok
  have hl8 := leafC_len hok
  refine GW_skip ?_
  refine GW_seq ?_
  refine GW_region ?_
  refine GL_lit (L := bys [76, 69, 65, 70]) (wn_none rfl) rfl rfl Try.underlying42 ts5 tz5 rfl (by kernel_rfl) rfl rfl hp ?_
  intro g3 w hp
  refine GL_convB (i := 0) (wn_none rfl) rfl rfl rfl Try.underlying42 Try.underlying5 hp rfl ?_
  intro w hp
  refine GL_rd (v := .slice _ _ _) (wn_none rfl) rfl (rd_assign rfl rfl) ?_
  refine GL_nil ?_
  refine GW_seq ?_
  refine GW_seq ?_
  refine GW_region ?_
  refine GL_rd (v := .int _ _) (wn_none rfl) rfl (rd_assign rfl rfl) ?_
  refine GL_nil ?_
  refine GW_block ?_
  refine GW_loop ?_
  refine Lp_ind (α := Nat × Value × Res) (fun a_0 f_0 w' => match a_0 with | (i, v, r) => ∃ fz, f_0 = (upd (upd (upd (upd fz 1 (.pointer (some ⟨g, 0, none⟩))) 2 (.pointer (some ⟨g2, 0, none⟩))) 5 (v)) 6 (.int .i64 (i : Int))) ∧ Hp w0 [] w' [r, cells g2 67 (List.replicate 256 (.int .u8 0)), cells g 72 (textC a s (.slice A n c) b)] ∧ (i ≤ 32) ∧ ((i = 0 ∧ ∃ g0, v = .slice (some ⟨g0, 0, none⟩) 4 4 ∧ r = .blk g0 (.cells ⟨bys [76, 69, 65, 70]⟩ 5 (4, 4 + 1))) ∨ (1 ≤ i ∧ r = .row 5 1 v (4 + i) (bys ([76, 69, 65, 70] ++ a.take i))))) (fun a_0 => match a_0 with | (i, v, r) => 32 - i) ?_ (0, .slice (some ⟨g3, 0, none⟩) 4 4, .blk g3 (.cells ⟨bys [76, 69, 65, 70]⟩ 5 (4, 4 + 1))) _ _ ?_
  ·rintro ⟨i, v, r⟩ f wz ⟨fz, rfl, hp, hi0, hr⟩ ihL0
   refine Lp_round ?_
   refine GW_seq ?_
   refine GW_seq ?_
   refine GW_region ?_
   refine GL_rd (v := .int _ _) (wn_none rfl) rfl (rd_move rfl rfl) ?_
   refine GL_rd (wn_none rfl) rfl (rd_bin rfl rfl rfl bo_lss) ?_
   refine GL_nil ?_
   refine GW_cond rfl (fun hb2 => ?_) (fun hb2 => ?_)
   ·(try simp only [decide_eq_true_eq, decide_eq_false_iff_not, Bool.not_eq_true', Bool.not_eq_false', Bool.not_eq_eq_eq_not, Bool.not_true, Bool.not_false, Int.not_lt, Int.not_le] at hb2)
    refine GW_skip ?_
    refine GW_seq ?_
    refine GW_block ?_
    rcases hr with ⟨rfl, g0, rfl, rfl⟩ | ⟨hi1, rfl⟩
    ·skip
     refine GW_region ?_
     refine GL_rd (wn_none rfl) rfl (rd_move rfl rfl) ?_
     refine GL_rd (v := .int _ _) (wn_none rfl) rfl (rd_move rfl rfl) ?_
     refine GL_rd (wn_none rfl) rfl (rd_field rfl rfl fa72_0 _ rfl) ?_
     refine GL_rd (wn_none rfl) rfl (rd_indexA (j := 0) rfl rfl rfl Try.underlying70 ts5 rfl (by omega) _ rfl) ?_
     refine GL_rd (wn_none rfl) rfl (rd_load rfl rfl Try.underlying5 rfl ((cell_of_cells (hp.get 2 rfl) _).trans (txtB0 ha _ _ _ (by omega)))) ?_
     refine GL_lit (L := [.int .u8 ((a.getD 0 0).toNat : Int)]) (wn_none rfl) rfl rfl Try.underlying42 ts5 tz5 rfl (by kernel_rfl) rfl rfl hp ?_
     intro g4 w hp
     refine GL_appendFull (wn_none rfl) rfl rfl rfl rfl Try.underlying42 ti5 rfl (by decide) hp (Sl.blk (hp.get 1 rfl) 1 _ rfl (by simp [maxLen])) (Sl.row (hp.get 0 rfl)) (by omega) (by decide) (by omega) (by omega) (by omega) ?_
     intro v w hp
     refine GL_rd (v := v) (wn_none rfl) rfl (rd_assign rfl rfl) ?_
     refine GL_nil ?_
     refine GW_region ?_
     refine GL_rd (v := .int _ _) (wn_none rfl) rfl (rd_move rfl rfl) ?_
     refine GL_rd (wn_none rfl) rfl (rd_bin rfl rfl rfl (bo_add64 (by omega))) ?_
     refine GL_rd (v := .int _ _) (wn_none rfl) rfl (rd_assign rfl rfl) ?_
     refine GL_nil ?_
     have hp := ((((hp.front 4 rfl).front 4 rfl).front 2 rfl).take 3)
     have hp : Hp w0 [] w [.row 5 1 v (4 + (0 + 1)) (bys ([76, 69, 65, 70] ++ a.take (0 + 1))), cells g2 67 (List.replicate 256 (.int .u8 0)), cells g 72 (textC a s (.slice A n c) b)] := by rw [← head_snoc (by omega)]; exact hp
     exact ihL0 (0 + 1, v, .row 5 1 v (4 + (0 + 1)) (bys ([76, 69, 65, 70] ++ a.take (0 + 1)))) _ _ (by simp only []; omega) ⟨_, slots4 rfl rfl rfl rfl, hp, by omega, .inr ⟨by omega, rfl⟩⟩
    ·skip
     refine GW_region ?_
     refine GL_rd (wn_none rfl) rfl (rd_move rfl rfl) ?_
     refine GL_rd (v := .int _ _) (wn_none rfl) rfl (rd_move rfl rfl) ?_
     refine GL_rd (wn_none rfl) rfl (rd_field rfl rfl fa72_0 _ rfl) ?_
     refine GL_rd (wn_none rfl) rfl (rd_indexA (j := i) rfl rfl rfl Try.underlying70 ts5 rfl (by omega) _ rfl) ?_
     refine GL_rd (wn_none rfl) rfl (rd_load rfl rfl Try.underlying5 rfl ((cell_of_cells (hp.get 2 rfl) _).trans (txtB0 ha _ _ _ (by omega)))) ?_
     refine GL_lit (L := [.int .u8 ((a.getD i 0).toNat : Int)]) (wn_none rfl) rfl rfl Try.underlying42 ts5 tz5 rfl (by kernel_rfl) rfl rfl hp ?_
     intro g5 w hp
     refine GL_append (i := 1) (wn_none rfl) rfl rfl rfl rfl Try.underlying42 ti5 rfl (by decide) hp rfl (Sl.row (hp.get 0 rfl)) (one1 rfl) (by omega) (by omega) ?_
     intro v2 w hp
     refine GL_rd (v := v2) (wn_none rfl) rfl (rd_assign rfl rfl) ?_
     refine GL_nil ?_
     refine GW_region ?_
     refine GL_rd (v := .int _ _) (wn_none rfl) rfl (rd_move rfl rfl) ?_
     refine GL_rd (wn_none rfl) rfl (rd_bin rfl rfl rfl (bo_add64 (by omega))) ?_
     refine GL_rd (v := .int _ _) (wn_none rfl) rfl (rd_assign rfl rfl) ?_
     refine GL_nil ?_
     have hp := ((((hp.front 3 rfl).front 3 rfl).front 3 rfl).take 3)
     have hp : Hp w0 [] w [.row 5 1 v2 (4 + (i + 1)) (bys ([76, 69, 65, 70] ++ a.take (i + 1))), cells g2 67 (List.replicate 256 (.int .u8 0)), cells g 72 (textC a s (.slice A n c) b)] := by rw [← head_snoc (by omega)]; exact hp
     exact ihL0 (i + 1, v2, .row 5 1 v2 (4 + (i + 1)) (bys ([76, 69, 65, 70] ++ a.take (i + 1)))) _ _ (by simp only []; omega) ⟨_, slots4 rfl rfl rfl rfl, hp, by omega, .inr ⟨by omega, rfl⟩⟩
   ·(try simp only [decide_eq_true_eq, decide_eq_false_iff_not, Bool.not_eq_true', Bool.not_eq_false', Bool.not_eq_eq_eq_not, Bool.not_true, Bool.not_false, Int.not_lt, Int.not_le] at hb2)
    obtain rfl : i = 32 := by omega
    rcases hr with ⟨h0, _⟩ | ⟨_, rfl⟩
    · omega
    rw [List.take_of_length_le (by omega)] at hp
    refine GW_exit ?_
    refine GW_seq ?_
    refine GW_region ?_
    refine GL_rd (v := v) (wn_none rfl) rfl (rd_move rfl rfl) ?_
    refine GL_rd (wn_none rfl) rfl (rd_field rfl rfl fa72_1 _ rfl) ?_
    refine GL_rd (wn_none rfl) rfl (rd_load rfl rfl Try.underlying3 rfl ((cell_of_cells (hp.get 2 rfl) _).trans (txt32 ha _ _ _))) ?_
    refine GL_rd (wn_none rfl) rfl (rd_convE (q := (s.toNat : Int)) rfl rfl Try.underlying165 Try.underlying3 (by simp) (by rw [IntWalk.u64_in _ (by omega)]; omega)) ?_
    refine GL_call (wn_none rfl) rfl rfl (ref_Put 2 s.toNat 2 _ (by omega) (by decide) rfl) rfl ?_
    intro q w hk
    have hp := hp.comp hk
    refine GL_append (i := 1) (wn_none rfl) rfl rfl rfl rfl Try.underlying42 ti5 rfl (by decide) hp rfl (Sl.row (hp.get 0 rfl)) (bys_one _) (by omega) (by omega) ?_
    intro v3 w hp
    rw [← bys_append] at hp
    refine GL_rd (v := v3) (wn_none rfl) rfl (rd_assign rfl rfl) ?_
    refine GL_nil ?_
    refine GW_seq ?_
    refine GW_region ?_
    refine GL_rd (v := v3) (wn_none rfl) rfl (rd_move rfl rfl) ?_
    refine GL_rd (wn_none rfl) rfl (rd_field rfl rfl fa72_3 _ rfl) ?_
    refine GL_rd (wn_none rfl) rfl (rd_load rfl rfl Try.underlying3 rfl ((cell_of_cells (hp.get 3 rfl) _).trans (txt34 ha _ _ _))) ?_
    refine GL_rd (wn_none rfl) rfl (rd_convE (q := (b.toNat : Int)) rfl rfl Try.underlying165 Try.underlying3 (by simp) (by rw [IntWalk.u64_in _ (by omega)]; omega)) ?_
    refine GL_call (wn_none rfl) rfl rfl (ref_Put 2 b.toNat 2 _ (by omega) (by decide) rfl) rfl ?_
    intro q2 w hk
    have hp := hp.comp hk
    refine GL_append (i := 2) (wn_none rfl) rfl rfl rfl rfl Try.underlying42 ti5 rfl (by decide) hp rfl (Sl.row (hp.get 0 rfl)) (bys_one _) (by omega) (by omega) ?_
    intro v4 w hp
    rw [← bys_append] at hp
    refine GL_rd (v := v4) (wn_none rfl) rfl (rd_assign rfl rfl) ?_
    refine GL_nil ?_
    refine GW_seq ?_
    refine GW_seq ?_
    refine GW_region ?_
    refine GL_rd (v := .int _ _) (wn_none rfl) rfl (rd_assign rfl rfl) ?_
    refine GL_nil ?_
    refine GW_block ?_
    refine GW_loop ?_
    refine Lp_ind (α := Nat × Value) (fun a_0 f_0 w' => match a_0 with | (i, v) => ∃ fz, f_0 = (upd (upd (upd (upd fz 1 (.pointer (some ⟨g, 0, none⟩))) 2 (.pointer (some ⟨g2, 0, none⟩))) 5 (v)) 7 (.int .i64 (i : Int))) ∧ Hp w0 [] w' [.row 5 1 v (40 + i) (bys (leafB a s b (l.take i))), cells g2 67 (List.replicate 256 (.int .u8 0)), cells g 72 (textC a s (.slice A n c) b)] ∧ (i ≤ n)) (fun a_0 => match a_0 with | (i, v) => n - i) ?_ (0, v4) _ _ ?_
    ·rintro ⟨i, v⟩ f wz ⟨fz, rfl, hp, hi0⟩ ihL1
     refine Lp_round ?_
     refine GW_seq ?_
     refine GW_seq ?_
     refine GW_region ?_
     refine GL_rd (v := .int _ _) (wn_none rfl) rfl (rd_move rfl rfl) ?_
     refine GL_rd (wn_none rfl) rfl (rd_field rfl rfl fa72_2 _ rfl) ?_
     refine GL_rd (v := .slice _ _ _) (wn_none rfl) rfl (rd_load rfl rfl Try.underlying57 rfl ((cell_of_cells (hp.get 2 rfl) _).trans (txt33 ha _ _ _))) ?_
     refine GL_rd (wn_none rfl) rfl (rd_len rfl rfl Try.underlying57) ?_
     refine GL_rd (wn_none rfl) rfl (rd_bin rfl rfl rfl bo_lss) ?_
     refine GL_nil ?_
     refine GW_cond rfl (fun hb3 => ?_) (fun hb3 => ?_)
     ·(try simp only [decide_eq_true_eq, decide_eq_false_iff_not, Bool.not_eq_true', Bool.not_eq_false', Bool.not_eq_eq_eq_not, Bool.not_true, Bool.not_false, Int.not_lt, Int.not_le] at hb3)
      obtain ⟨y, hy⟩ : ∃ y, l[i]? = some y := ⟨_, List.getElem?_eq_getElem (by omega)⟩
      obtain ⟨gA, bA, rfl⟩ := hs.addr (by rw [List.length_map]; omega)
      refine GW_skip ?_
      refine GW_seq ?_
      refine GW_block ?_
      refine GW_region ?_
      refine GL_rd (v := v) (wn_none rfl) rfl (rd_move rfl rfl) ?_
      refine GL_rd (wn_none rfl) rfl (rd_field rfl rfl fa72_2 _ rfl) ?_
      refine GL_rd (v := .slice _ _ _) (wn_none rfl) rfl (rd_load rfl rfl Try.underlying57 rfl ((cell_of_cells (hp.get 2 rfl) _).trans (txt33 ha _ _ _))) ?_
      refine GL_rd (v := .int _ _) (wn_none rfl) rfl (rd_move rfl rfl) ?_
      refine GL_rd (wn_none rfl) rfl (rd_indexS (j := i) rfl rfl rfl Try.underlying57 ts3 rfl (by omega) _ rfl) ?_
      refine GL_rd (wn_none rfl) rfl (rd_load rfl rfl Try.underlying3 rfl ((hs.keep hp.mod).get (i * 1) _ (by rw [Nat.mul_one, List.getElem?_map, hy]; rfl))) ?_
      refine GL_rd (wn_none rfl) rfl (rd_convE (q := ((slotB y).toNat : Int)) rfl rfl Try.underlying5 Try.underlying3 (by simp) (slotB_wrap (all_get hok2.2.2.2.2.2 hy))) ?_
      refine GL_lit (L := [.int .u8 ((slotB y).toNat : Int)]) (wn_none rfl) rfl rfl Try.underlying42 ts5 tz5 rfl (by kernel_rfl) rfl rfl hp ?_
      intro g6 w hp
      refine GL_append (i := 1) (wn_none rfl) rfl rfl rfl rfl Try.underlying42 ti5 rfl (by decide) hp rfl (Sl.row (hp.get 0 rfl)) (one1 rfl) (by omega) (by omega) ?_
      intro v5 w hp
      refine GL_rd (v := v5) (wn_none rfl) rfl (rd_assign rfl rfl) ?_
      refine GL_nil ?_
      refine GW_region ?_
      refine GL_rd (v := .int _ _) (wn_none rfl) rfl (rd_move rfl rfl) ?_
      refine GL_rd (wn_none rfl) rfl (rd_bin rfl rfl rfl (bo_add64 (by omega))) ?_
      refine GL_rd (v := .int _ _) (wn_none rfl) rfl (rd_assign rfl rfl) ?_
      refine GL_nil ?_
      have hp := ((((hp.front 3 rfl).front 3 rfl).front 3 rfl).take 3)
      have hp : Hp w0 [] w [.row 5 1 v5 (40 + (i + 1)) (bys (leafB a s b (l.take (i + 1)))), cells g2 67 (List.replicate 256 (.int .u8 0)), cells g 72 (textC a s (.slice (some ⟨gA, bA, none⟩) n c) b)] := by rw [← leafB_snoc hy]; exact hp
      exact ihL1 (i + 1, v5) _ _ (by simp only []; omega) ⟨_, slots4 rfl rfl rfl rfl, hp, by omega⟩
     ·(try simp only [decide_eq_true_eq, decide_eq_false_iff_not, Bool.not_eq_true', Bool.not_eq_false', Bool.not_eq_eq_eq_not, Bool.not_true, Bool.not_false, Int.not_lt, Int.not_le] at hb3)
      obtain rfl : i = n := by omega
      rw [List.take_of_length_le (by omega)] at hp
      refine GW_exit ?_
      refine GW_seq ?_
      refine GW_region ?_
      refine GL_rd (v := v) (wn_none rfl) rfl (rd_move rfl rfl) ?_
      refine GL_call (wn_none rfl) rfl rfl (ref_Sealed _ _ (leafB a s b l) _ (Sl.row (hp.get 0 rfl)) (by omega)) rfl ?_
      rintro _ w ⟨rfl, hk⟩
      have hp := hp.comp hk
      refine GL_store (i := 1) (wn_none rfl) rfl rfl rfl rfl ts67 rfl (by rw [bys_length, secL_length]) (bys_one _) hp rfl (by rw [List.length_replicate]; omega) ((splice_all _ _ (by rw [bys_length, secL_length, List.length_replicate])).trans (congrArg bys (leafS_ok hok))) ?_
      intro w hp
      refine GL_rd (v := .int _ _) (wn_none rfl) rfl (rd_assign rfl rfl) ?_
      refine GL_nil ?_
      refine GW_ret ?_
      exact ⟨_, res2 Try.results45 (rv_cell rfl rfl Try.underlying67 rfl ts67 (by first | rw [bys_length, leafS_length] | exact List.length_replicate) (hp.get 1 rfl)) (rv_tmp (v := .int _ _) rfl rfl), by rw [hok], hp.mods⟩
    ·have hp := ((((hp.front 4 rfl).front 4 rfl).front 4 rfl).take 3)
     have hp : Hp w0 [] w [.row 5 1 v4 (40 + 0) (bys (leafB a s b (l.take 0))), cells g2 67 (List.replicate 256 (.int .u8 0)), cells g 72 (textC a s (.slice A n c) b)] := by rw [← leafB_none]; exact hp
     refine ⟨_, slots4 rfl rfl rfl rfl, hp, Nat.zero_le _⟩
  ·refine ⟨_, slots4 rfl rfl rfl rfl, hp, Nat.zero_le _, .inl ⟨rfl, g3, rfl, rfl⟩⟩

theorem leaf_Get (x : List UInt8) (m : Int) (w0 : World) (hx : x.length = 256) : Does Try.prog 53 #[.agg ⟨bys x⟩, .int .i64 m] w0 fun v w' => ∃ sv2, v = .tuple #[.agg ⟨textC (lgA x m) (lgS x m) sv2 (lgB x m)⟩, .bool (leafGd x m), .int .i64 (lgE x m)] ∧ Hp w0 [] w' [.row 3 1 sv2 (lgL x m).length ((lgL x m).map (Value.int .i64))] := by
 have hA := lfA_length hx
 have hR := lfR_length hx
 have hS := lfS_lt x
 have hB := lfB_lt x
 have hS2 : getL ((((x.take 252).drop 4).drop 32).take 2) < 65536 := hS
 have hB2 : getL (((((x.take 252).drop 4).drop 32).drop 2).take 2) < 65536 := hB
 have hK8 : lfK x ≤ 8 := by unfold lfK; omega
 have hKi : (lfK x : Int) = min (countI (lfS x)) 8 := by have : 0 ≤ countI (lfS x) := (by unfold countI; split <;> omega); unfold lfK; omega
 refine does_of (l := [.agg ⟨bys x⟩, .int .i64 m]) Try.func53 (by kernel_rfl) rfl Try.ntmps53 rfl rfl ?_
 have hp := Hp.refl w0 []
 refine GW_seq ?_
 refine GW_region ?_
 refine GL_box (wn_none rfl) rfl rfl rfl rfl hp ?_
 intro g w hp
 refine GL_alloc (wn_none rfl) rfl rfl tz72 rfl hp ?_
 intro g2 w hp
 refine GL_rd (v := .bool _) (wn_none rfl) rfl (rd_assign rfl rfl) ?_
 refine GL_rd (v := .int _ _) (wn_none rfl) rfl (rd_assign rfl rfl) ?_
 refine GL_nil ?_
 refine GW_seq ?_
 refine GW_seq ?_
 refine GW_region ?_
 refine GL_rd (wn_none rfl) rfl (rd_loadC rfl rfl Try.underlying67 rfl ts67 (hp.get 1 rfl) (by rw [bys_length, hx])) ?_
 refine GL_rd (wn_none rfl) rfl (rd_buildA (L := bys (List.replicate 256 0)) rfl tz67 Try.underlying67 ts5 (by kernel_rfl)) ?_
 refine GL_rd (wn_none rfl) rfl (rd_bin rfl rfl rfl (bo_arrB Try.underlying67 Try.underlying5 ts5 (by kernel_rfl) hx List.length_replicate).1) ?_
 refine GL_nil ?_
 refine GW_cond rfl (fun hb => ?_) (fun hb => ?_)
 ·(try simp only [decide_eq_true_eq, decide_eq_false_iff_not, Bool.not_eq_true', Bool.not_eq_false', Bool.not_eq_eq_eq_not, Bool.not_true, Bool.not_false, Int.not_lt, Int.not_le] at hb)
  have hz : x = List.replicate 256 0 := hb
  refine GW_seq ?_
  refine GW_region ?_
  refine GL_rd (wn_none rfl) rfl (rd_buildS (L := List.replicate 32 (.int .u8 0) ++ [.int .i64 0, .slice none 0 0, .int .i64 0]) rfl tz72 pl72 (by kernel_rfl)) ?_
  refine GL_store (i := 0) (wn_none rfl) rfl rfl rfl rfl ts72 rfl rfl (by rw [txt_zero]; exact textC_one rfl) hp rfl (by decide) (splice_all _ _ rfl) ?_
  intro w hp
  refine GL_rd (v := .bool _) (wn_none rfl) rfl (rd_assign rfl rfl) ?_
  refine GL_rd (v := .int _ _) (wn_none rfl) rfl (rd_assign rfl rfl) ?_
  refine GL_nil ?_
  refine GW_ret ?_
  have hbad : leafGd x m = false := leafGd_z hz
  have hE := lgE_z (m := m) hz
  refine ⟨_, res3 Try.results53 (rv_cell rfl rfl Try.underlying72 rfl ts72 (by first | exact textC_length hA _ _ _ | rfl) (hp.get 0 rfl)) (rv_tmp (v := .bool _) rfl rfl) (rv_tmp (v := .int _ _) rfl rfl), .slice none 0 0, by rw [← lg_txt hbad, hbad, hE.1], ?_⟩
  rw [(lg_no hbad).2.2.2.1]
  exact hp.mods.nilRow _ _
 ·(try simp only [decide_eq_true_eq, decide_eq_false_iff_not, Bool.not_eq_true', Bool.not_eq_false', Bool.not_eq_eq_eq_not, Bool.not_true, Bool.not_false, Int.not_lt, Int.not_le] at hb)
  have hz : ¬ x = List.replicate 256 0 := hb
  refine GW_skip ?_
  refine GW_seq ?_
  refine GW_region ?_
  refine GL_rd (wn_none rfl) rfl (rd_sliceA (lo := 0) (hi := 252) rfl rfl Try.underlying67 ts5 at_none (at_some rfl rfl) (by decide) (by decide) (by decide) _ rfl) ?_
  refine GL_call (wn_none rfl) rfl rfl (word_From _ _ _ _) rfl ?_
  rintro _ w ⟨p, rfl, hk⟩
  have hp := hp.comp hk
  refine GL_rd (v := .pointer (some ⟨_, _, none⟩)) (wn_none rfl) rfl (rd_assign rfl rfl) ?_
  refine GL_nil ?_
  refine GW_seq ?_
  refine GW_seq ?_
  refine GW_region ?_
  refine GL_rd (wn_none rfl) rfl (rd_sliceA (lo := 0) (hi := 256) rfl rfl Try.underlying67 ts5 at_none to_none (by decide) (by decide) (by decide) _ rfl) ?_
  refine GL_call (wn_none rfl) rfl rfl (crc_Holds _ 256 x _ (Sl.cells (hp.get 2 rfl) 1 256 256 0 (bys x) (by rw [List.drop_zero, List.take_of_length_le (by rw [bys_length, hx]; decide)]) (by rw [bys_length, hx]; decide) (by decide) (by decide))) rfl ?_
  rintro _ w ⟨rfl, hk⟩
  have hp := hp.comp hk
  refine GL_rd (wn_none rfl) rfl (rd_not rfl rfl) ?_
  refine GL_rd (v := .bool _) (wn_none rfl) rfl (rd_move rfl rfl) ?_
  refine GL_split (t := 18) (b := _) rfl ?_ ?_
  ·intro hb2; (try simp only [decide_eq_true_eq, decide_eq_false_iff_not, Bool.not_eq_true', Bool.not_eq_false', Bool.not_eq_eq_eq_not, Bool.not_true, Bool.not_false, Int.not_lt, Int.not_le] at hb2)
   have hbad : leafGd x m = false := leafGd_no (fun hh => by rw [hh.1] at hb2; cases hb2)
   refine GL_pass (nw_off rfl rfl rfl rfl rfl) rfl ?_
   refine GL_pass (nw_off rfl rfl rfl rfl rfl) rfl ?_
   refine GL_pass (nw_off rfl rfl rfl rfl rfl) rfl ?_
   refine GL_pass (nw_off rfl rfl rfl rfl rfl) rfl ?_
   refine GL_rd (v := .bool _) (wn_none rfl) rfl (rd_pickT rfl rfl rfl) ?_
   refine GL_nil ?_
   refine GW_true rfl ?_
   refine GW_seq ?_
   refine GW_region ?_
   refine GL_rd (wn_none rfl) rfl (rd_buildS (L := List.replicate 32 (.int .u8 0) ++ [.int .i64 0, .slice none 0 0, .int .i64 0]) rfl tz72 pl72 (by kernel_rfl)) ?_
   refine GL_store (i := 1) (wn_none rfl) rfl rfl rfl rfl ts72 rfl rfl (by rw [txt_zero]; exact textC_one rfl) hp rfl (by decide) (splice_all _ _ rfl) ?_
   intro w hp
   refine GL_rd (v := .bool _) (wn_none rfl) rfl (rd_assign rfl rfl) ?_
   refine GL_rd (v := .int _ _) (wn_none rfl) rfl (rd_assign rfl rfl) ?_
   refine GL_nil ?_
   refine GW_ret ?_
   have hE := lgE_no hbad hz
   refine ⟨_, res3 Try.results53 (rv_cell rfl rfl Try.underlying72 rfl ts72 (by first | exact textC_length hA _ _ _ | rfl) (hp.get 1 rfl)) (rv_tmp (v := .bool _) rfl rfl) (rv_tmp (v := .int _ _) rfl rfl), .slice none 0 0, by rw [← lg_txt hbad, hbad, hE.1], ?_⟩
   rw [(lg_no hbad).2.2.2.1]
   exact hp.mods.nilRow _ _
  ·intro hb2; (try simp only [decide_eq_true_eq, decide_eq_false_iff_not, Bool.not_eq_true', Bool.not_eq_false', Bool.not_eq_eq_eq_not, Bool.not_true, Bool.not_false, Int.not_lt, Int.not_le] at hb2)
   have hh1 : holdsL x = true := hb2
   refine GL_rd (v := .pointer (some ⟨_, _, none⟩)) (wn_on rfl rfl rfl rfl) rfl (rd_move rfl rfl) ?_
   refine GL_call (wn_on rfl rfl rfl rfl) rfl rfl (cur_Bytes p _ (x.take 252) (false) 4 _ (hp.get 0 rfl) (fun w' h => (Sl.cellsB (hp.stayAt 0 2 rfl rfl (by decide) h) (by rw [hx]; decide) (by decide) (by decide))) (by simp only [List.length_drop, List.length_take, hx]; omega)) rfl ?_
   rintro v w ⟨bv, hsuf, hk⟩
   have hp := hp.turnAtMore 0 rfl hk
   obtain ⟨Av, cv, rfl⟩ := row_shape (hp.get 0 rfl)
   have st1 : curOk false (x.take 252) 4 = true ∧ curOut false (x.take 252) 4 = (x.take 252).take 4 ∧ curL false (x.take 252) 4 = (x.take 252).drop 4 := cur_step (x.take 252) 4 (by simp only [List.length_drop, List.length_take, hx]; omega)
   rw [st1.2.2] at hsuf
   rw [st1.2.1, st1.1, Bool.not_true] at hp
   rw [st1.2.1]
   refine GL_rd (wn_on rfl rfl rfl rfl) rfl (rd_toStr rfl rfl Try.underlying42 Try.underlying9 Try.underlying5 (Sl.row (hp.get 0 rfl))) ?_
   refine GL_rd (wn_on rfl rfl rfl rfl) rfl (rd_bin rfl rfl rfl bo_sneq) ?_
   refine GL_rd (v := .bool _) (wn_none rfl) rfl (rd_pickF rfl rfl rfl) ?_
   refine GL_nil ?_
   refine GW_cond rfl (fun hb3 => ?_) (fun hb3 => ?_)
   ·(try simp only [decide_eq_true_eq, decide_eq_false_iff_not, Bool.not_eq_true', Bool.not_eq_false', Bool.not_eq_eq_eq_not, Bool.not_true, Bool.not_false, Int.not_lt, Int.not_le] at hb3)
    have hbad : leafGd x m = false := leafGd_no (fun hh => hb3 (by rw [hh.2.1]))
    refine GW_seq ?_
    refine GW_region ?_
    refine GL_rd (wn_none rfl) rfl (rd_buildS (L := List.replicate 32 (.int .u8 0) ++ [.int .i64 0, .slice none 0 0, .int .i64 0]) rfl tz72 pl72 (by kernel_rfl)) ?_
    refine GL_store (i := 2) (wn_none rfl) rfl rfl rfl rfl ts72 rfl rfl (by rw [txt_zero]; exact textC_one rfl) hp rfl (by decide) (splice_all _ _ rfl) ?_
    intro w hp
    refine GL_rd (v := .bool _) (wn_none rfl) rfl (rd_assign rfl rfl) ?_
    refine GL_rd (v := .int _ _) (wn_none rfl) rfl (rd_assign rfl rfl) ?_
    refine GL_nil ?_
    refine GW_ret ?_
    have hE := lgE_no hbad hz
    refine ⟨_, res3 Try.results53 (rv_cell rfl rfl Try.underlying72 rfl ts72 (by first | exact textC_length hA _ _ _ | rfl) (hp.get 2 rfl)) (rv_tmp (v := .bool _) rfl rfl) (rv_tmp (v := .int _ _) rfl rfl), .slice none 0 0, by rw [← lg_txt hbad, hbad, hE.1], ?_⟩
    rw [(lg_no hbad).2.2.2.1]
    exact hp.mods.nilRow _ _
   ·(try simp only [decide_eq_true_eq, decide_eq_false_iff_not, Bool.not_eq_true', Bool.not_eq_false', Bool.not_eq_eq_eq_not, Bool.not_true, Bool.not_false, Int.not_lt, Int.not_le] at hb3)
    have hh2 : (x.take 252).take 4 = [76, 69, 65, 70] := congrArg (fun z : ByteArray => z.data.toList) hb3
    refine GW_skip ?_
    refine GW_cut (fun f_0 w' => ∃ (g4 : Nat) (bv : Value) (fz : _), f_0 = (upd (upd (upd (upd fz 1 (.int .i64 m)) 4 (.pointer (some ⟨g2, 0, none⟩))) 7 (.pointer (some ⟨p, 0, none⟩))) 8 (.pointer (some ⟨g4, 0, none⟩))) ∧ Hp w0 [] w' [cells g4 72 (textC (lfA x) (lfS x : Int) (.slice none 0 0) (lfB x : Int)), cells p 229 [bv, .bool false], cells g2 72 (List.replicate 32 (.int .u8 0) ++ [.int .i64 0, .slice none 0 0, .int .i64 0]), cells g 67 (bys x)] ∧ (Suf (.slice (some ⟨g, 0, none⟩) 252 256) (x.take 252) bv (lfR x))) ?_ ?_
    ·skip
     refine GW_drawnK 12 (.one 0 true (.one 4 true (.one 7 true (.two 1 11 (.one 2 true (.one 3 true (.two 5 11 (.one 6 true (.two 8 11 (.one 9 true (.one 10 true (.one 11 false (.one 12 false .nil)))) (.one 8 false (.one 9 true (.one 10 true (.one 12 false .nil)))))) (.one 5 false (.one 6 true (.one 8 false (.one 9 true (.one 10 true (.one 12 false .nil))))))))) (.one 1 false (.one 2 true (.one 3 true (.one 5 false (.one 6 true (.one 8 false (.one 9 true (.one 10 true (.one 12 false .nil))))))))))))) mixed (by kernel_rfl) hp (fun _ h => h.mods) fun w hp => ?_
     have hpS := hp.mods
     refine GO_rd (v := .pointer (some ⟨_, _, none⟩)) rfl (wn_none rfl) rfl hpS (fun w hp => (rd_move rfl rfl)) ?_
     refine GO_rd (v := .pointer (some ⟨_, _, none⟩)) rfl (wn_none rfl) rfl hpS (fun w hp => (rd_move rfl rfl)) ?_
     refine GO_rd (v := .pointer (some ⟨_, _, none⟩)) rfl (wn_none rfl) rfl hpS (fun w hp => (rd_move rfl rfl)) ?_
     refine GO_two rfl rfl ?_ ?_
     ·skip
      refine GC_of_GL ?_
      refine GL_call (wn_none rfl) rfl rfl (cur_Bytes p _ ((x.take 252).drop 4) (false) 32 _ (hp.get 1 rfl) (fun w' h => (hsuf w' (Sl.cellsB (hp.stayAt 1 3 rfl rfl (by decide) h) (by rw [hx]; decide) (by decide) (by decide)))) (by simp only [List.length_drop, List.length_take, hx]; omega)) rfl ?_
      rintro v2 w ⟨bv2, hsuf2, hk⟩
      have hp := hp.turnAtMore 1 rfl hk
      obtain ⟨Av2, cv2, rfl⟩ := row_shape (hp.get 0 rfl)
      have st1 : curOk false ((x.take 252).drop 4) 32 = true ∧ curOut false ((x.take 252).drop 4) 32 = ((x.take 252).drop 4).take 32 ∧ curL false ((x.take 252).drop 4) 32 = ((x.take 252).drop 4).drop 32 := cur_step ((x.take 252).drop 4) 32 (by simp only [List.length_drop, List.length_take, hx]; omega)
      rw [st1.2.2] at hsuf2
      rw [st1.2.1, st1.1, Bool.not_true] at hp
      rw [st1.2.1]
      obtain ⟨gB, bB, rfl⟩ := (Sl.row (hp.get 0 rfl)).addr (by rw [bys_length]; simp only [List.length_take, List.length_drop, hx]; omega)
      have hpS2 := hp.mods
      refine GL_nil ⟨fun _ => hpS2, ?_⟩
      refine GO_grow hp (fun _ h => (h.sub (.cons_cons _ (.cons _ (.cons _ (.cons _ (.cons _ .slnil))))))) (fun _ h => h.mods) fun hpS3 => ?_
      refine GO_rd (v := _) rfl (wn_none rfl) rfl hpS3 (fun w hp => (rd_toArr rfl rfl Try.underlying70 (by simp only [List.length_take, List.length_drop, hx]; omega))) ?_
      refine GO_rd rfl (wn_none rfl) rfl hpS3 (fun w hp => (rd_loadN (L := bys (lfA x)) rfl rfl Try.underlying70 rfl ts70 (by rw [bys_length, hA]) (fun j u hj => (Sl.row (hp.get 0 rfl)).get j u hj))) ?_
      refine GO_two rfl rfl ?_ ?_
      ·skip
       refine GC_of_GL ?_
       refine GL_call (wn_none rfl) rfl rfl (cur_Num p _ (((x.take 252).drop 4).drop 32) (false) 2 _ (hp.get 1 rfl) (fun w' h => (hsuf2 w' (hsuf w' (Sl.cellsB (hp.stayAt 1 4 rfl rfl (by decide) h) (by rw [hx]; decide) (by decide) (by decide))))) (by simp only [List.length_drop, List.length_take, hx]; omega)) rfl ?_
       rintro _ w ⟨bv3, hsuf3, rfl, hk⟩
       have hp := hp.turnAtMore 1 rfl hk
       have st1 : curOk false (((x.take 252).drop 4).drop 32) 2 = true ∧ curOut false (((x.take 252).drop 4).drop 32) 2 = (((x.take 252).drop 4).drop 32).take 2 ∧ curL false (((x.take 252).drop 4).drop 32) 2 = (((x.take 252).drop 4).drop 32).drop 2 := cur_step (((x.take 252).drop 4).drop 32) 2 (by simp only [List.length_drop, List.length_take, hx]; omega)
       rw [st1.2.2] at hsuf3
       rw [st1.1, Bool.not_true] at hp
       rw [show curNum false (((x.take 252).drop 4).drop 32) 2 = getL ((((x.take 252).drop 4).drop 32).take 2) from num_step (((x.take 252).drop 4).drop 32) 2 (by simp only [List.length_drop, List.length_take, hx]; omega) (by decide)]
       have hpS4 := (hp.sub (.cons _ (.cons_cons _ (.cons _ (.cons _ (.cons _ .slnil))))))
       refine GL_nil ⟨fun _ => hpS4, ?_⟩
       refine GO_rd rfl (wn_none rfl) rfl hpS4 (fun w hp => (rd_convE (q := (lfS x : Int)) rfl rfl Try.underlying3 Try.underlying165 (by simp) (IntWalk.i64_in _ (by omega)))) ?_
       refine GO_two rfl rfl ?_ ?_
       ·skip
        refine GC_of_GL ?_
        refine GL_call (wn_none rfl) rfl rfl (cur_Num p _ ((((x.take 252).drop 4).drop 32).drop 2) (false) 2 _ (hp.get 0 rfl) (fun w' h => (hsuf3 w' (hsuf2 w' (hsuf w' (Sl.cellsB (hp.stayAt 0 4 rfl rfl (by decide) h) (by rw [hx]; decide) (by decide) (by decide)))))) (by simp only [List.length_drop, List.length_take, hx]; omega)) rfl ?_
        rintro _ w ⟨bv4, hsuf4, rfl, hk⟩
        have hp := hp.turnAtMore 0 rfl hk
        have st1 : curOk false ((((x.take 252).drop 4).drop 32).drop 2) 2 = true ∧ curOut false ((((x.take 252).drop 4).drop 32).drop 2) 2 = ((((x.take 252).drop 4).drop 32).drop 2).take 2 ∧ curL false ((((x.take 252).drop 4).drop 32).drop 2) 2 = ((((x.take 252).drop 4).drop 32).drop 2).drop 2 := cur_step ((((x.take 252).drop 4).drop 32).drop 2) 2 (by simp only [List.length_drop, List.length_take, hx]; omega)
        rw [st1.2.2] at hsuf4
        rw [st1.1, Bool.not_true] at hp
        rw [show curNum false ((((x.take 252).drop 4).drop 32).drop 2) 2 = getL (((((x.take 252).drop 4).drop 32).drop 2).take 2) from num_step ((((x.take 252).drop 4).drop 32).drop 2) 2 (by simp only [List.length_drop, List.length_take, hx]; omega) (by decide)]
        have hpS5 := (hp.sub (.cons _ (.cons_cons _ (.cons _ (.cons _ (.cons _ .slnil))))))
        refine GL_nil ⟨fun _ => hpS5, ?_⟩
        refine GO_rd rfl (wn_none rfl) rfl hpS5 (fun w hp => (rd_convE (q := (lfB x : Int)) rfl rfl Try.underlying3 Try.underlying165 (by simp) (IntWalk.i64_in _ (by omega)))) ?_
        refine GO_rd rfl (wn_none rfl) rfl hpS5 (fun w hp => (rd_buildF (L := (textC (lfA x) (lfS x : Int) (.slice none 0 0) (lfB x : Int))) rfl tz72 pl72 rfl (fill_more 0 32 rfl rfl (by rw [bys_length, hA]) (by decide) (txt_set0 hA _) (fill_more 32 1 rfl rfl rfl (by rw [textC_length hA]; decide) (txt_setS hA _ _ _ _) (fill_more 34 1 rfl rfl rfl (by rw [textC_length hA]; decide) (txt_setB hA _ _ _ _) (fill_done rfl)))))) ?_
        refine GO_of_GL rfl ?_
        refine GL_alloc (wn_none rfl) rfl rfl tz72 rfl hp ?_
        intro g3 w hp
        have hpS6 := (hp.sub (.cons _ (.cons _ (.cons_cons _ (.cons _ (.cons _ (.cons _ .slnil)))))))
        refine GL_nil ⟨fun _ => hpS6, ?_⟩
        refine GO_of_GL rfl ?_
        refine GL_store (i := 0) (wn_none rfl) rfl rfl rfl rfl ts72 rfl (textC_length hA _ _ _) (textC_one rfl) hp rfl (by decide) (splice_all _ _ (by rw [textC_length hA]; rfl)) ?_
        intro w hp
        refine GL_nil ⟨fun h => absurd h (by decide), ?_⟩
        refine GO_nil ?_
        have hp := (((((hp.front 5 rfl).front 5 rfl).front 3 rfl).front 3 rfl).take 4)
        exact ⟨g3, bv4, _, slots4 rfl rfl rfl rfl, hp, (hsuf.trans (hsuf2.trans (hsuf3.trans hsuf4)))⟩
       ·skip
        refine GC_of_GL ?_
        refine GL_alloc (wn_none rfl) rfl rfl tz72 rfl hp ?_
        intro g4 w hp
        have hpS7 := (hp.sub (.cons _ (.cons _ (.cons_cons _ (.cons _ (.cons _ (.cons _ .slnil)))))))
        refine GL_nil ⟨fun _ => hpS7, ?_⟩
        refine GO_of_GL rfl ?_
        refine GL_call (wn_none rfl) rfl rfl (cur_Num p _ ((((x.take 252).drop 4).drop 32).drop 2) (false) 2 _ (hp.get 1 rfl) (fun w' h => (hsuf3 w' (hsuf2 w' (hsuf w' (Sl.cellsB (hp.stayAt 1 5 rfl rfl (by decide) h) (by rw [hx]; decide) (by decide) (by decide)))))) (by simp only [List.length_drop, List.length_take, hx]; omega)) rfl ?_
        rintro _ w ⟨bv5, hsuf5, rfl, hk⟩
        have hp := hp.turnAtMore 1 rfl hk
        have st1 : curOk false ((((x.take 252).drop 4).drop 32).drop 2) 2 = true ∧ curOut false ((((x.take 252).drop 4).drop 32).drop 2) 2 = ((((x.take 252).drop 4).drop 32).drop 2).take 2 ∧ curL false ((((x.take 252).drop 4).drop 32).drop 2) 2 = ((((x.take 252).drop 4).drop 32).drop 2).drop 2 := cur_step ((((x.take 252).drop 4).drop 32).drop 2) 2 (by simp only [List.length_drop, List.length_take, hx]; omega)
        rw [st1.2.2] at hsuf5
        rw [st1.1, Bool.not_true] at hp
        rw [show curNum false ((((x.take 252).drop 4).drop 32).drop 2) 2 = getL (((((x.take 252).drop 4).drop 32).drop 2).take 2) from num_step ((((x.take 252).drop 4).drop 32).drop 2) 2 (by simp only [List.length_drop, List.length_take, hx]; omega) (by decide)]
        have hpS8 := (hp.sub (.cons _ (.cons _ (.cons_cons _ (.cons _ (.cons _ (.cons _ .slnil)))))))
        refine GL_nil ⟨fun _ => hpS8, ?_⟩
        refine GO_rd rfl (wn_none rfl) rfl hpS8 (fun w hp => (rd_convE (q := (lfB x : Int)) rfl rfl Try.underlying3 Try.underlying165 (by simp) (IntWalk.i64_in _ (by omega)))) ?_
        refine GO_rd rfl (wn_none rfl) rfl hpS8 (fun w hp => (rd_buildF (L := (textC (lfA x) (lfS x : Int) (.slice none 0 0) (lfB x : Int))) rfl tz72 pl72 rfl (fill_more 0 32 rfl rfl (by rw [bys_length, hA]) (by decide) (txt_set0 hA _) (fill_more 32 1 rfl rfl rfl (by rw [textC_length hA]; decide) (txt_setS hA _ _ _ _) (fill_more 34 1 rfl rfl rfl (by rw [textC_length hA]; decide) (txt_setB hA _ _ _ _) (fill_done rfl)))))) ?_
        refine GO_of_GL rfl ?_
        refine GL_store (i := 1) (wn_none rfl) rfl rfl rfl rfl ts72 rfl (textC_length hA _ _ _) (textC_one rfl) hp rfl (by decide) (splice_all _ _ (by rw [textC_length hA]; rfl)) ?_
        intro w hp
        refine GL_nil ⟨fun h => absurd h (by decide), ?_⟩
        refine GO_nil ?_
        have hp := (((((hp.front 5 rfl).front 5 rfl).front 2 rfl).front 3 rfl).take 4)
        exact ⟨g4, bv5, _, slots4 rfl rfl rfl rfl, hp, (hsuf.trans (hsuf2.trans (hsuf3.trans hsuf5)))⟩
      ·skip
       refine GC_of_GL ?_
       refine GL_alloc (wn_none rfl) rfl rfl tz72 rfl hp ?_
       intro g5 w hp
       have hpS9 := (hp.sub (.cons _ (.cons_cons _ (.cons _ (.cons _ (.cons _ (.cons _ .slnil)))))))
       refine GL_nil ⟨fun _ => hpS9, ?_⟩
       refine GO_of_GL rfl ?_
       refine GL_call (wn_none rfl) rfl rfl (cur_Num p _ (((x.take 252).drop 4).drop 32) (false) 2 _ (hp.get 2 rfl) (fun w' h => (hsuf2 w' (hsuf w' (Sl.cellsB (hp.stayAt 2 5 rfl rfl (by decide) h) (by rw [hx]; decide) (by decide) (by decide))))) (by simp only [List.length_drop, List.length_take, hx]; omega)) rfl ?_
       rintro _ w ⟨bv6, hsuf6, rfl, hk⟩
       have hp := hp.turnAtMore 2 rfl hk
       have st1 : curOk false (((x.take 252).drop 4).drop 32) 2 = true ∧ curOut false (((x.take 252).drop 4).drop 32) 2 = (((x.take 252).drop 4).drop 32).take 2 ∧ curL false (((x.take 252).drop 4).drop 32) 2 = (((x.take 252).drop 4).drop 32).drop 2 := cur_step (((x.take 252).drop 4).drop 32) 2 (by simp only [List.length_drop, List.length_take, hx]; omega)
       rw [st1.2.2] at hsuf6
       rw [st1.1, Bool.not_true] at hp
       rw [show curNum false (((x.take 252).drop 4).drop 32) 2 = getL ((((x.take 252).drop 4).drop 32).take 2) from num_step (((x.take 252).drop 4).drop 32) 2 (by simp only [List.length_drop, List.length_take, hx]; omega) (by decide)]
       have hpS10 := (hp.sub (.cons _ (.cons _ (.cons_cons _ (.cons _ (.cons _ (.cons _ .slnil)))))))
       refine GL_nil ⟨fun _ => hpS10, ?_⟩
       refine GO_rd rfl (wn_none rfl) rfl hpS10 (fun w hp => (rd_convE (q := (lfS x : Int)) rfl rfl Try.underlying3 Try.underlying165 (by simp) (IntWalk.i64_in _ (by omega)))) ?_
       refine GO_of_GL rfl ?_
       refine GL_call (wn_none rfl) rfl rfl (cur_Num p _ ((((x.take 252).drop 4).drop 32).drop 2) (false) 2 _ (hp.get 0 rfl) (fun w' h => (hsuf6 w' (hsuf2 w' (hsuf w' (Sl.cellsB (hp.stayAt 0 5 rfl rfl (by decide) h) (by rw [hx]; decide) (by decide) (by decide)))))) (by simp only [List.length_drop, List.length_take, hx]; omega)) rfl ?_
       rintro _ w ⟨bv7, hsuf7, rfl, hk⟩
       have hp := hp.turnAtMore 0 rfl hk
       have st1 : curOk false ((((x.take 252).drop 4).drop 32).drop 2) 2 = true ∧ curOut false ((((x.take 252).drop 4).drop 32).drop 2) 2 = ((((x.take 252).drop 4).drop 32).drop 2).take 2 ∧ curL false ((((x.take 252).drop 4).drop 32).drop 2) 2 = ((((x.take 252).drop 4).drop 32).drop 2).drop 2 := cur_step ((((x.take 252).drop 4).drop 32).drop 2) 2 (by simp only [List.length_drop, List.length_take, hx]; omega)
       rw [st1.2.2] at hsuf7
       rw [st1.1, Bool.not_true] at hp
       rw [show curNum false ((((x.take 252).drop 4).drop 32).drop 2) 2 = getL (((((x.take 252).drop 4).drop 32).drop 2).take 2) from num_step ((((x.take 252).drop 4).drop 32).drop 2) 2 (by simp only [List.length_drop, List.length_take, hx]; omega) (by decide)]
       have hpS11 := (hp.sub (.cons _ (.cons _ (.cons_cons _ (.cons _ (.cons _ (.cons _ .slnil)))))))
       refine GL_nil ⟨fun _ => hpS11, ?_⟩
       refine GO_rd rfl (wn_none rfl) rfl hpS11 (fun w hp => (rd_convE (q := (lfB x : Int)) rfl rfl Try.underlying3 Try.underlying165 (by simp) (IntWalk.i64_in _ (by omega)))) ?_
       refine GO_rd rfl (wn_none rfl) rfl hpS11 (fun w hp => (rd_buildF (L := (textC (lfA x) (lfS x : Int) (.slice none 0 0) (lfB x : Int))) rfl tz72 pl72 rfl (fill_more 0 32 rfl rfl (by rw [bys_length, hA]) (by decide) (txt_set0 hA _) (fill_more 32 1 rfl rfl rfl (by rw [textC_length hA]; decide) (txt_setS hA _ _ _ _) (fill_more 34 1 rfl rfl rfl (by rw [textC_length hA]; decide) (txt_setB hA _ _ _ _) (fill_done rfl)))))) ?_
       refine GO_of_GL rfl ?_
       refine GL_store (i := 1) (wn_none rfl) rfl rfl rfl rfl ts72 rfl (textC_length hA _ _ _) (textC_one rfl) hp rfl (by decide) (splice_all _ _ (by rw [textC_length hA]; rfl)) ?_
       intro w hp
       refine GL_nil ⟨fun h => absurd h (by decide), ?_⟩
       refine GO_nil ?_
       have hp := (((((hp.front 5 rfl).front 5 rfl).front 2 rfl).front 3 rfl).take 4)
       exact ⟨g5, bv7, _, slots4 rfl rfl rfl rfl, hp, (hsuf.trans (hsuf2.trans (hsuf6.trans hsuf7)))⟩
     ·skip
      refine GC_of_GL ?_
      refine GL_alloc (wn_none rfl) rfl rfl tz72 rfl hp ?_
      intro g6 w hp
      have hpS12 := hp.mods
      refine GL_nil ⟨fun _ => hpS12, ?_⟩
      refine GO_of_GL rfl ?_
      refine GL_call (wn_none rfl) rfl rfl (cur_Bytes p _ ((x.take 252).drop 4) (false) 32 _ (hp.get 2 rfl) (fun w' h => (hsuf w' (Sl.cellsB (hp.stayAt 2 4 rfl rfl (by decide) h) (by rw [hx]; decide) (by decide) (by decide)))) (by simp only [List.length_drop, List.length_take, hx]; omega)) rfl ?_
      rintro v8 w ⟨bv8, hsuf8, hk⟩
      have hp := hp.turnAtMore 2 rfl hk
      obtain ⟨Av8, cv8, rfl⟩ := row_shape (hp.get 0 rfl)
      have st1 : curOk false ((x.take 252).drop 4) 32 = true ∧ curOut false ((x.take 252).drop 4) 32 = ((x.take 252).drop 4).take 32 ∧ curL false ((x.take 252).drop 4) 32 = ((x.take 252).drop 4).drop 32 := cur_step ((x.take 252).drop 4) 32 (by simp only [List.length_drop, List.length_take, hx]; omega)
      rw [st1.2.2] at hsuf8
      rw [st1.2.1, st1.1, Bool.not_true] at hp
      rw [st1.2.1]
      obtain ⟨gB, bB, rfl⟩ := (Sl.row (hp.get 0 rfl)).addr (by rw [bys_length]; simp only [List.length_take, List.length_drop, hx]; omega)
      have hpS13 := hp.mods
      refine GL_nil ⟨fun _ => hpS13, ?_⟩
      refine GO_grow hp (fun _ h => (h.sub (.cons_cons _ (.cons _ (.cons _ (.cons _ (.cons _ (.cons _ .slnil)))))))) (fun _ h => h.mods) fun hpS14 => ?_
      refine GO_rd (v := _) rfl (wn_none rfl) rfl hpS14 (fun w hp => (rd_toArr rfl rfl Try.underlying70 (by simp only [List.length_take, List.length_drop, hx]; omega))) ?_
      refine GO_rd rfl (wn_none rfl) rfl hpS14 (fun w hp => (rd_loadN (L := bys (lfA x)) rfl rfl Try.underlying70 rfl ts70 (by rw [bys_length, hA]) (fun j u hj => (Sl.row (hp.get 0 rfl)).get j u hj))) ?_
      refine GO_of_GL rfl ?_
      refine GL_call (wn_none rfl) rfl rfl (cur_Num p _ (((x.take 252).drop 4).drop 32) (false) 2 _ (hp.get 1 rfl) (fun w' h => (hsuf8 w' (hsuf w' (Sl.cellsB (hp.stayAt 1 5 rfl rfl (by decide) h) (by rw [hx]; decide) (by decide) (by decide))))) (by simp only [List.length_drop, List.length_take, hx]; omega)) rfl ?_
      rintro _ w ⟨bv9, hsuf9, rfl, hk⟩
      have hp := hp.turnAtMore 1 rfl hk
      have st1 : curOk false (((x.take 252).drop 4).drop 32) 2 = true ∧ curOut false (((x.take 252).drop 4).drop 32) 2 = (((x.take 252).drop 4).drop 32).take 2 ∧ curL false (((x.take 252).drop 4).drop 32) 2 = (((x.take 252).drop 4).drop 32).drop 2 := cur_step (((x.take 252).drop 4).drop 32) 2 (by simp only [List.length_drop, List.length_take, hx]; omega)
      rw [st1.2.2] at hsuf9
      rw [st1.1, Bool.not_true] at hp
      rw [show curNum false (((x.take 252).drop 4).drop 32) 2 = getL ((((x.take 252).drop 4).drop 32).take 2) from num_step (((x.take 252).drop 4).drop 32) 2 (by simp only [List.length_drop, List.length_take, hx]; omega) (by decide)]
      have hpS15 := (hp.sub (.cons _ (.cons_cons _ (.cons _ (.cons _ (.cons _ (.cons _ .slnil)))))))
      refine GL_nil ⟨fun _ => hpS15, ?_⟩
      refine GO_rd rfl (wn_none rfl) rfl hpS15 (fun w hp => (rd_convE (q := (lfS x : Int)) rfl rfl Try.underlying3 Try.underlying165 (by simp) (IntWalk.i64_in _ (by omega)))) ?_
      refine GO_of_GL rfl ?_
      refine GL_call (wn_none rfl) rfl rfl (cur_Num p _ ((((x.take 252).drop 4).drop 32).drop 2) (false) 2 _ (hp.get 0 rfl) (fun w' h => (hsuf9 w' (hsuf8 w' (hsuf w' (Sl.cellsB (hp.stayAt 0 5 rfl rfl (by decide) h) (by rw [hx]; decide) (by decide) (by decide)))))) (by simp only [List.length_drop, List.length_take, hx]; omega)) rfl ?_
      rintro _ w ⟨bv10, hsuf10, rfl, hk⟩
      have hp := hp.turnAtMore 0 rfl hk
      have st1 : curOk false ((((x.take 252).drop 4).drop 32).drop 2) 2 = true ∧ curOut false ((((x.take 252).drop 4).drop 32).drop 2) 2 = ((((x.take 252).drop 4).drop 32).drop 2).take 2 ∧ curL false ((((x.take 252).drop 4).drop 32).drop 2) 2 = ((((x.take 252).drop 4).drop 32).drop 2).drop 2 := cur_step ((((x.take 252).drop 4).drop 32).drop 2) 2 (by simp only [List.length_drop, List.length_take, hx]; omega)
      rw [st1.2.2] at hsuf10
      rw [st1.1, Bool.not_true] at hp
      rw [show curNum false ((((x.take 252).drop 4).drop 32).drop 2) 2 = getL (((((x.take 252).drop 4).drop 32).drop 2).take 2) from num_step ((((x.take 252).drop 4).drop 32).drop 2) 2 (by simp only [List.length_drop, List.length_take, hx]; omega) (by decide)]
      have hpS16 := (hp.sub (.cons _ (.cons_cons _ (.cons _ (.cons _ (.cons _ (.cons _ .slnil)))))))
      refine GL_nil ⟨fun _ => hpS16, ?_⟩
      refine GO_rd rfl (wn_none rfl) rfl hpS16 (fun w hp => (rd_convE (q := (lfB x : Int)) rfl rfl Try.underlying3 Try.underlying165 (by simp) (IntWalk.i64_in _ (by omega)))) ?_
      refine GO_rd rfl (wn_none rfl) rfl hpS16 (fun w hp => (rd_buildF (L := (textC (lfA x) (lfS x : Int) (.slice none 0 0) (lfB x : Int))) rfl tz72 pl72 rfl (fill_more 0 32 rfl rfl (by rw [bys_length, hA]) (by decide) (txt_set0 hA _) (fill_more 32 1 rfl rfl rfl (by rw [textC_length hA]; decide) (txt_setS hA _ _ _ _) (fill_more 34 1 rfl rfl rfl (by rw [textC_length hA]; decide) (txt_setB hA _ _ _ _) (fill_done rfl)))))) ?_
      refine GO_of_GL rfl ?_
      refine GL_store (i := 2) (wn_none rfl) rfl rfl rfl rfl ts72 rfl (textC_length hA _ _ _) (textC_one rfl) hp rfl (by decide) (splice_all _ _ (by rw [textC_length hA]; rfl)) ?_
      intro w hp
      refine GL_nil ⟨fun h => absurd h (by decide), ?_⟩
      refine GO_nil ?_
      have hp := (((((hp.front 5 rfl).front 5 rfl).front 2 rfl).front 4 rfl).take 4)
      exact ⟨g6, bv10, _, slots4 rfl rfl rfl rfl, hp, (hsuf.trans (hsuf8.trans (hsuf9.trans hsuf10)))⟩
    ·rintro f w ⟨g4, bv, fz, rfl, hp, hsufC⟩
     refine GW_seq ?_
     refine GW_seq ?_
     refine GW_region ?_
     refine GL_rd (wn_none rfl) rfl (rd_field rfl rfl fa72_1 _ rfl) ?_
     refine GL_rd (wn_none rfl) rfl (rd_load rfl rfl Try.underlying3 rfl ((cell_of_cells (hp.get 0 rfl) _).trans (txt32 hA _ _ _))) ?_
     refine GL_call (wn_none rfl) rfl rfl (chunk_Count (lfS x) _ (by omega)) rfl ?_
     rintro _ w ⟨rfl, hk⟩
     have hp := hp.comp hk
     refine GL_rd (wn_none rfl) rfl (rd_min rfl rfl rfl) ?_
     refine GL_rd (v := .int _ _) (wn_none rfl) rfl (rd_move rfl rfl) ?_
     refine GL_nil ?_
     refine GW_block ?_
     refine GW_loop ?_
     refine Lp_ind (α := Nat × Value × Value) (fun a_0 f_0 w' => match a_0 with | (i, v, bv) => ∃ fz, f_0 = (upd (upd (upd (upd (upd (upd fz 1 (.int .i64 m)) 4 (.pointer (some ⟨g2, 0, none⟩))) 7 (.pointer (some ⟨p, 0, none⟩))) 8 (.pointer (some ⟨g4, 0, none⟩))) 39 (.int .i64 (min (countI (lfS x)) 8))) 40 (.int .i64 (i : Int))) ∧ Hp w0 [] w' [.row 3 1 v i ((slotsX (lfR x) i).map (Value.int .i64)), cells g4 72 (textC (lfA x) (lfS x : Int) v (lfB x : Int)), cells p 229 [bv, .bool false], cells g2 72 (List.replicate 32 (.int .u8 0) ++ [.int .i64 0, .slice none 0 0, .int .i64 0]), cells g 67 (bys x)] ∧ (i ≤ lfK x) ∧ (Suf (.slice (some ⟨g, 0, none⟩) 252 256) (x.take 252) bv ((lfR x).drop i))) (fun a_0 => match a_0 with | (i, v, bv) => lfK x - i) ?_ (0, .slice none 0 0, bv) _ _ ?_
     ·rintro ⟨i, v, bv⟩ f wz ⟨fz, rfl, hp, hi0, hsufL⟩ ihL0
      refine Lp_round ?_
      refine GW_seq ?_
      refine GW_region ?_
      refine GL_rd (wn_none rfl) rfl (rd_bin rfl rfl rfl bo_lss) ?_
      refine GL_nil ?_
      refine GW_seq ?_
      refine GW_cond rfl (fun hb4 => ?_) (fun hb4 => ?_)
      ·(try simp only [decide_eq_true_eq, decide_eq_false_iff_not, Bool.not_eq_true', Bool.not_eq_false', Bool.not_eq_eq_eq_not, Bool.not_true, Bool.not_false, Int.not_lt, Int.not_le] at hb4)
       refine GW_skip ?_
       refine GW_seq ?_
       refine GW_block ?_
       refine GW_drawnK 8 (.one 0 true (.one 1 true (.one 2 true (.one 3 false (.one 4 true (.one 5 false (.one 6 false (.one 7 true (.one 8 false .nil))))))))) mixed (by kernel_rfl) hp (fun _ h => (h.sub (.cons _ (.cons_cons _ (.cons _ (.cons _ (.cons _ .slnil))))))) fun w hp => ?_
       have hpS17 := (hp.sub (.cons _ (.cons_cons _ (.cons _ (.cons _ (.cons _ .slnil))))))
       refine GO_rd rfl (wn_none rfl) rfl hpS17 (fun w hp => (rd_field rfl rfl fa72_2 _ rfl)) ?_
       refine GO_rd rfl (wn_none rfl) rfl hpS17 (fun w hp => (rd_load rfl rfl Try.underlying57 rfl ((cell_of_cells (hp.get 0 rfl) _).trans (txt33 hA _ _ _)))) ?_
       refine GO_rd (v := .pointer (some ⟨_, _, none⟩)) rfl (wn_none rfl) rfl hpS17 (fun w hp => (rd_move rfl rfl)) ?_
       refine GO_of_GL rfl ?_
       refine GL_call (wn_none rfl) rfl rfl (cur_Num p _ ((lfR x).drop i) (false) 1 _ (hp.get 2 rfl) (fun w' h => (hsufL w' (Sl.cellsB (hp.stayAt 2 4 rfl rfl (by decide) h) (by rw [hx]; decide) (by decide) (by decide)))) (by rw [List.length_drop]; omega)) rfl ?_
       rintro _ w ⟨bv11, hsuf11, rfl, hk⟩
       have hp := hp.turnAtMore 2 rfl hk
       have st1 : curOk false ((lfR x).drop i) 1 = true ∧ curOut false ((lfR x).drop i) 1 = ((lfR x).drop i).take 1 ∧ curL false ((lfR x).drop i) 1 = ((lfR x).drop i).drop 1 := cur_step ((lfR x).drop i) 1 (by rw [List.length_drop]; omega)
       rw [st1.2.2] at hsuf11
       rw [st1.1, Bool.not_true] at hp
       rw [show curNum false ((lfR x).drop i) 1 = getL (((lfR x).drop i).take 1) from num_step ((lfR x).drop i) 1 (by rw [List.length_drop]; omega) (by decide)]
       have hpS18 := (hp.sub (.cons _ (.cons _ (.cons_cons _ (.cons _ (.cons _ .slnil))))))
       refine GL_nil ⟨fun _ => hpS18, ?_⟩
       refine GO_rd rfl (wn_none rfl) rfl hpS18 (fun w hp => (rd_convE (q := (((lfR x).getD i 0).toNat : Int)) rfl rfl Try.underlying3 Try.underlying165 (by simp) (conv_one (by omega)))) ?_
       refine GO_of_GL rfl ?_
       refine GL_lit (L := [.int .i64 (((lfR x).getD i 0).toNat : Int)]) (wn_none rfl) rfl rfl Try.underlying57 ts3 tz3 rfl (by kernel_rfl) rfl rfl hp ?_
       intro g7 w hp
       have hpS19 := (hp.sub (.cons _ (.cons _ (.cons _ (.cons_cons _ (.cons _ (.cons _ .slnil)))))))
       refine GL_nil ⟨fun _ => hpS19, ?_⟩
       refine GO_of_GL rfl ?_
       refine GL_append (i := 2) (wn_none rfl) rfl rfl rfl rfl Try.underlying57 ti3 rfl (by decide) hp rfl (Sl.row (hp.get 0 rfl)) (one1 rfl) (by omega) (by omega) ?_
       intro v12 w hp
       obtain ⟨Av12, cv12, rfl⟩ := row_shape (hp.get 2 rfl)
       have hpS20 := (hp.sub (.cons _ (.cons _ (.cons _ (.cons_cons _ (.cons _ (.cons _ .slnil)))))))
       refine GL_nil ⟨fun _ => hpS20, ?_⟩
       refine GO_rd rfl (wn_none rfl) rfl hpS20 (fun w hp => (rd_field rfl rfl fa72_2 _ rfl)) ?_
       refine GO_of_GL rfl ?_
       refine GL_store (i := 3) (wn_none rfl) rfl rfl rfl rfl ts57 rfl rfl (one1 rfl) hp rfl (by rw [textC_length hA]; decide) (txt_set hA _ _ _ _) ?_
       intro w hp
       refine GL_nil ⟨fun h => absurd h (by decide), ?_⟩
       refine GO_nil ?_
       refine GW_region ?_
       refine GL_rd (wn_none rfl) rfl (rd_bin rfl rfl rfl (bo_add64 (by omega))) ?_
       refine GL_rd (v := .int _ _) (wn_none rfl) rfl (rd_move rfl rfl) ?_
       refine GL_nil ?_
       have hp := ((((((hp.front 5 rfl).front 5 rfl).front 3 rfl).front 5 rfl).front 5 rfl).take 5)
       have hp : Hp w0 [] w [.row 3 1 (.slice Av12 (i + 1) cv12) (i + 1) ((slotsX (lfR x) (i + 1)).map (Value.int .i64)), cells g4 72 (textC (lfA x) (lfS x : Int) (.slice Av12 (i + 1) cv12) (lfB x : Int)), cells p 229 [bv11, .bool false], cells g2 72 (List.replicate 32 (.int .u8 0) ++ [.int .i64 0, .slice none 0 0, .int .i64 0]), cells g 67 (bys x)] := by rw [slotsX_succ (by omega), List.map_append]; exact hp
       exact ihL0 (i + 1, .slice Av12 (i + 1) cv12, bv11) _ _ (by simp only []; omega) ⟨_, slots6 rfl rfl rfl rfl rfl rfl, hp, by omega, by rw [← List.drop_drop]; exact hsufL.trans hsuf11⟩
      ·(try simp only [decide_eq_true_eq, decide_eq_false_iff_not, Bool.not_eq_true', Bool.not_eq_false', Bool.not_eq_eq_eq_not, Bool.not_true, Bool.not_false, Int.not_lt, Int.not_le] at hb4)
       obtain rfl : i = lfK x := by omega
       obtain ⟨Az, cz, rfl⟩ := row_shape (hp.get 0 rfl)
       refine GW_exit ?_
       refine GW_seq ?_
       refine GW_seq ?_
       refine GW_region ?_
       refine GL_rd (v := .pointer (some ⟨_, _, none⟩)) (wn_none rfl) rfl (rd_move rfl rfl) ?_
       refine GL_call (wn_none rfl) rfl rfl (cur_Rest p _ ((lfR x).drop (lfK x)) (false) _ (hp.get 2 rfl) (fun w' h => (hsufL w' (Sl.cellsB (hp.stayAt 2 4 rfl rfl (by decide) h) (by rw [hx]; decide) (by decide) (by decide))))) rfl ?_
       rintro _ w ⟨rfl, hk⟩
       have hp := hp.comp hk
       refine GL_rd (wn_none rfl) rfl (rd_not rfl rfl) ?_
       refine GL_rd (v := .bool _) (wn_none rfl) rfl (rd_move rfl rfl) ?_
       refine GL_split (t := 54) (b := _) rfl ?_ ?_
       ·intro hb5; (try simp only [decide_eq_true_eq, decide_eq_false_iff_not, Bool.not_eq_true', Bool.not_eq_false', Bool.not_eq_eq_eq_not, Bool.not_true, Bool.not_false, Int.not_lt, Int.not_le] at hb5)
        have hbad : leafGd x m = false := leafGd_no (fun hh => by rw [hh.2.2.1] at hb5; exact absurd hb5 (by decide))
        refine GL_pass (nw_off rfl rfl rfl rfl rfl) rfl ?_
        refine GL_pass (nw_off rfl rfl rfl rfl rfl) rfl ?_
        refine GL_pass (nw_off rfl rfl rfl rfl rfl) rfl ?_
        refine GL_pass (nw_off rfl rfl rfl rfl rfl) rfl ?_
        refine GL_rd (v := .bool _) (wn_none rfl) rfl (rd_pickT rfl rfl rfl) ?_
        refine GL_nil ?_
        refine GW_true rfl ?_
        refine GW_seq ?_
        refine GW_region ?_
        refine GL_rd (wn_none rfl) rfl (rd_buildS (L := List.replicate 32 (.int .u8 0) ++ [.int .i64 0, .slice none 0 0, .int .i64 0]) rfl tz72 pl72 (by kernel_rfl)) ?_
        refine GL_store (i := 3) (wn_none rfl) rfl rfl rfl rfl ts72 rfl rfl (by rw [txt_zero]; exact textC_one rfl) hp rfl (by decide) (splice_all _ _ rfl) ?_
        intro w hp
        refine GL_rd (v := .bool _) (wn_none rfl) rfl (rd_assign rfl rfl) ?_
        refine GL_rd (v := .int _ _) (wn_none rfl) rfl (rd_assign rfl rfl) ?_
        refine GL_nil ?_
        refine GW_ret ?_
        have hE := lgE_no hbad hz
        refine ⟨_, res3 Try.results53 (rv_cell rfl rfl Try.underlying72 rfl ts72 (by first | exact textC_length hA _ _ _ | rfl) (hp.get 3 rfl)) (rv_tmp (v := .bool _) rfl rfl) (rv_tmp (v := .int _ _) rfl rfl), .slice none 0 0, by rw [← lg_txt hbad, hbad, hE.1], ?_⟩
        rw [(lg_no hbad).2.2.2.1]
        exact hp.mods.nilRow _ _
       ·intro hb5; (try simp only [decide_eq_true_eq, decide_eq_false_iff_not, Bool.not_eq_true', Bool.not_eq_false', Bool.not_eq_eq_eq_not, Bool.not_true, Bool.not_false, Int.not_lt, Int.not_le] at hb5)
        have hh3 : zeroL ((lfR x).drop (lfK x)) = true := hb5
        refine GL_rd (wn_on rfl rfl rfl rfl) rfl (rd_loadC rfl rfl Try.underlying72 rfl ts72 (hp.get 1 rfl) (textC_length hA _ _ _)) ?_
        refine GL_rd (v := .int _ _) (wn_on rfl rfl rfl rfl) rfl (rd_move rfl rfl) ?_
        refine GL_call (wn_on rfl rfl rfl rfl) rfl rfl (leaf_Check (lfA x) (lfS x) _ (lfB x) (lfK x) (slotsX (lfR x) (lfK x)) m _ hA (Sl.row (hp.get 0 rfl)) (by omega)) rfl ?_
        rintro _ w ⟨rfl, hk⟩
        have hp := hp.comp hk
        refine GL_rd (wn_on rfl rfl rfl rfl) rfl (rd_bin rfl rfl rfl bo_neq) ?_
        refine GL_rd (v := .bool _) (wn_none rfl) rfl (rd_pickF rfl rfl rfl) ?_
        refine GL_nil ?_
        refine GW_cond rfl (fun hb6 => ?_) (fun hb6 => ?_)
        ·(try simp only [decide_eq_true_eq, decide_eq_false_iff_not, Bool.not_eq_true', Bool.not_eq_false', Bool.not_eq_eq_eq_not, Bool.not_true, Bool.not_false, Int.not_lt, Int.not_le] at hb6)
         have hbad : leafGd x m = false := leafGd_no (fun hh => hb6 hh.2.2.2)
         refine GW_seq ?_
         refine GW_region ?_
         refine GL_rd (wn_none rfl) rfl (rd_buildS (L := List.replicate 32 (.int .u8 0) ++ [.int .i64 0, .slice none 0 0, .int .i64 0]) rfl tz72 pl72 (by kernel_rfl)) ?_
         refine GL_store (i := 3) (wn_none rfl) rfl rfl rfl rfl ts72 rfl rfl (by rw [txt_zero]; exact textC_one rfl) hp rfl (by decide) (splice_all _ _ rfl) ?_
         intro w hp
         refine GL_rd (v := .bool _) (wn_none rfl) rfl (rd_assign rfl rfl) ?_
         refine GL_rd (v := .int _ _) (wn_none rfl) rfl (rd_assign rfl rfl) ?_
         refine GL_nil ?_
         refine GW_ret ?_
         have hE := lgE_no hbad hz
         refine ⟨_, res3 Try.results53 (rv_cell rfl rfl Try.underlying72 rfl ts72 (by first | exact textC_length hA _ _ _ | rfl) (hp.get 3 rfl)) (rv_tmp (v := .bool _) rfl rfl) (rv_tmp (v := .int _ _) rfl rfl), .slice none 0 0, by rw [← lg_txt hbad, hbad, hE.1], ?_⟩
         rw [(lg_no hbad).2.2.2.1]
         exact hp.mods.nilRow _ _
        ·(try simp only [decide_eq_true_eq, decide_eq_false_iff_not, Bool.not_eq_true', Bool.not_eq_false', Bool.not_eq_eq_eq_not, Bool.not_true, Bool.not_false, Int.not_lt, Int.not_le] at hb6)
         have hgd : leafGd x m = true := leafGd_iff.2 ⟨hh1, hh2, hh3, hb6⟩
         refine GW_skip ?_
         refine GW_seq ?_
         refine GW_region ?_
         refine GL_rd (wn_none rfl) rfl (rd_loadC rfl rfl Try.underlying72 rfl ts72 (hp.get 1 rfl) (textC_length hA _ _ _)) ?_
         refine GL_store (i := 3) (wn_none rfl) rfl rfl rfl rfl ts72 rfl (textC_length hA _ _ _) (textC_one rfl) hp rfl (by decide) (splice_all _ _ (by rw [textC_length hA]; rfl)) ?_
         intro w hp
         refine GL_rd (v := .bool _) (wn_none rfl) rfl (rd_assign rfl rfl) ?_
         refine GL_rd (v := .int _ _) (wn_none rfl) rfl (rd_assign rfl rfl) ?_
         refine GL_nil ?_
         refine GW_ret ?_
         have hy := lg_yes hgd
         refine ⟨_, res3 Try.results53 (rv_cell rfl rfl Try.underlying72 rfl ts72 (by first | exact textC_length hA _ _ _ | rfl) (hp.get 3 rfl)) (rv_tmp (v := .bool _) rfl rfl) (rv_tmp (v := .int _ _) rfl rfl), _, by rw [hy.1, hy.2.1, hy.2.2.1, hgd, hy.2.2.2.2.2], ?_⟩
         rw [hy.2.2.2.1, slotsX_length (by omega)]
         have hp := ((hp.front 0 rfl).take 1)
         exact hp
     ·have hp := hp.nilRow 3 1
      refine ⟨_, slots6 rfl rfl rfl rfl rfl rfl, hp, Nat.zero_le _, hsufC⟩

theorem ref_lfNum (x : List UInt8) (p : Nat) (w0 : World) (hx : x.length = 256) (hpp : p + 2 ≤ 256) : Does Try.prog 120 #[.agg ⟨bys x⟩, .int .i64 (p : Int)] w0 fun v w' => v = .int .i64 (getL ((x.drop p).take 2) : Int) ∧ Hp w0 [] w' [] := by
 have hn1 := (x.getD p 0).toNat_lt
 have hn2 := (x.getD (p + 1) 0).toNat_lt
 refine does_of (l := [.agg ⟨bys x⟩, .int .i64 (p : Int)]) Try.func120 (by kernel_rfl) rfl Try.ntmps120 rfl rfl ?_
 have hp := Hp.refl w0 []
 refine GW_seq ?_
 refine GW_region ?_
 refine GL_box (wn_none rfl) rfl rfl rfl rfl hp ?_
 intro g w hp
 refine GL_rd (v := .int _ _) (wn_none rfl) rfl (rd_assign rfl rfl) ?_
 refine GL_nil ?_
 refine GW_seq ?_
 refine GW_drawnK 12 (.one 0 true (.one 1 true (.one 2 true (.one 3 true (.one 4 true (.one 5 true (.one 6 true (.one 7 true (.one 8 true (.one 9 true (.one 10 true (.one 11 true .nil)))))))))))) mixed (by kernel_rfl) hp (fun _ h => h) fun w hp => ?_
 have hpS := hp
 refine GO_rd (v := .int _ _) rfl (wn_none rfl) rfl hpS (fun w hp => (rd_move rfl rfl)) ?_
 refine GO_rd rfl (wn_none rfl) rfl hpS (fun w hp => (rd_indexA (j := p) rfl rfl rfl Try.underlying67 ts5 rfl (by omega) _ rfl)) ?_
 refine GO_rd rfl (wn_none rfl) rfl hpS (fun w hp => (rd_load rfl rfl Try.underlying5 rfl ((cell_of_cells (hp.get 0 rfl) _).trans (bys_at0 (by omega))))) ?_
 refine GO_rd rfl (wn_none rfl) rfl hpS (fun w hp => (rd_conv8 .i64 rfl rfl Try.underlying3 Try.underlying5 (by simp))) ?_
 refine GO_rd (v := .int _ _) rfl (wn_none rfl) rfl hpS (fun w hp => (rd_move rfl rfl)) ?_
 refine GO_rd rfl (wn_none rfl) rfl hpS (fun w hp => (rd_bin rfl rfl rfl (bo_add64 (by omega)))) ?_
 refine GO_rd rfl (wn_none rfl) rfl hpS (fun w hp => (rd_indexA (j := (p + 1)) rfl rfl rfl Try.underlying67 ts5 rfl (by omega) _ rfl)) ?_
 refine GO_rd rfl (wn_none rfl) rfl hpS (fun w hp => (rd_load rfl rfl Try.underlying5 rfl ((cell_of_cells (hp.get 0 rfl) _).trans (bys_at0 (by omega))))) ?_
 refine GO_rd rfl (wn_none rfl) rfl hpS (fun w hp => (rd_conv8 .i64 rfl rfl Try.underlying3 Try.underlying5 (by simp))) ?_
 refine GO_rd rfl (wn_none rfl) rfl hpS (fun w hp => (rd_bin rfl rfl rfl (bo_mul64 (by omega)))) ?_
 refine GO_rd rfl (wn_none rfl) rfl hpS (fun w hp => (rd_bin rfl rfl rfl (bo_add64 (by omega)))) ?_
 refine GO_rd (v := .int _ _) rfl (wn_none rfl) rfl hpS (fun w hp => (rd_assign rfl rfl)) ?_
 refine GO_nil ?_
 refine GW_ret ?_
 exact ⟨_, res1 Try.results120 (rv_tmp (v := .int _ _) rfl rfl), by rw [← two_get (by omega)], hp.mods⟩

theorem ref_leafGet (x : List UInt8) (m : Int) (w0 : World) (hx : x.length = 256) : Does Try.prog 54 #[.agg ⟨bys x⟩, .int .i64 m] w0 fun v w' => ∃ sv2, v = .tuple #[.agg ⟨textC (lgA x m) (lgS x m) sv2 (lgB x m)⟩, .bool (leafGd x m), .bool (lgO x m)] ∧ Hp w0 [] w' [.row 3 1 sv2 (lgL x m).length ((lgL x m).map (Value.int .i64))] := by
 have hA := lfA_length hx
 have hR := lfR_length hx
 have hS := lfS_lt x
 have hB := lfB_lt x
 have hS2 : getL ((((x.take 252).drop 4).drop 32).take 2) < 65536 := hS
 have hB2 : getL (((((x.take 252).drop 4).drop 32).drop 2).take 2) < 65536 := hB
 have hK8 : lfK x ≤ 8 := by unfold lfK; omega
 have hQ9 : lfQ x ≤ 9 := by unfold lfQ; omega
 refine does_of (l := [.agg ⟨bys x⟩, .int .i64 m]) Try.func54 (by kernel_rfl) rfl Try.ntmps54 rfl rfl ?_
 have hp := Hp.refl w0 []
 refine GW_seq ?_
 refine GW_region ?_
 refine GL_box (wn_none rfl) rfl rfl rfl rfl hp ?_
 intro g w hp
 refine GL_alloc (wn_none rfl) rfl rfl tz72 rfl hp ?_
 intro g2 w hp
 refine GL_rd (v := .bool _) (wn_none rfl) rfl (rd_assign rfl rfl) ?_
 refine GL_rd (v := .bool _) (wn_none rfl) rfl (rd_assign rfl rfl) ?_
 refine GL_nil ?_
 refine GW_seq ?_
 refine GW_seq ?_
 refine GW_region ?_
 refine GL_rd (wn_none rfl) rfl (rd_loadC rfl rfl Try.underlying67 rfl ts67 (hp.get 1 rfl) (by rw [bys_length, hx])) ?_
 refine GL_rd (wn_none rfl) rfl (rd_buildA (L := bys (List.replicate 256 0)) rfl tz67 Try.underlying67 ts5 (by kernel_rfl)) ?_
 refine GL_rd (wn_none rfl) rfl (rd_bin rfl rfl rfl (bo_arrB Try.underlying67 Try.underlying5 ts5 (by kernel_rfl) hx List.length_replicate).1) ?_
 refine GL_nil ?_
 refine GW_cond rfl (fun hb => ?_) (fun hb => ?_)
 ·(try simp only [decide_eq_true_eq, decide_eq_false_iff_not, Bool.not_eq_true', Bool.not_eq_false', Bool.not_eq_eq_eq_not, Bool.not_true, Bool.not_false, Int.not_lt, Int.not_le] at hb)
  have hz : x = List.replicate 256 0 := hb
  refine GW_seq ?_
  refine GW_region ?_
  refine GL_rd (wn_none rfl) rfl (rd_buildS (L := List.replicate 32 (.int .u8 0) ++ [.int .i64 0, .slice none 0 0, .int .i64 0]) rfl tz72 pl72 (by kernel_rfl)) ?_
  refine GL_store (i := 0) (wn_none rfl) rfl rfl rfl rfl ts72 rfl rfl (by rw [txt_zero]; exact textC_one rfl) hp rfl (by decide) (splice_all _ _ rfl) ?_
  intro w hp
  refine GL_rd (v := .bool _) (wn_none rfl) rfl (rd_assign rfl rfl) ?_
  refine GL_rd (v := .bool _) (wn_none rfl) rfl (rd_assign rfl rfl) ?_
  refine GL_nil ?_
  refine GW_ret ?_
  have hbad : leafGd x m = false := leafGd_z hz
  have hE := lgE_z (m := m) hz
  refine ⟨_, res3 Try.results54 (rv_cell rfl rfl Try.underlying72 rfl ts72 (by first | exact textC_length hA _ _ _ | rfl) (hp.get 0 rfl)) (rv_tmp (v := .bool _) rfl rfl) (rv_tmp (v := .bool _) rfl rfl), .slice none 0 0, by rw [← lg_txt hbad, hbad, hE.2], ?_⟩
  rw [(lg_no hbad).2.2.2.1]
  exact hp.mods.nilRow _ _
 ·(try simp only [decide_eq_true_eq, decide_eq_false_iff_not, Bool.not_eq_true', Bool.not_eq_false', Bool.not_eq_eq_eq_not, Bool.not_true, Bool.not_false, Int.not_lt, Int.not_le] at hb)
  have hz : ¬ x = List.replicate 256 0 := hb
  refine GW_skip ?_
  refine GW_cut (fun f_0 w' => ∃ (g3 : Nat) (fz : _), f_0 = (upd (upd (upd (upd fz 1 (.int .i64 m)) 2 (.pointer (some ⟨g, 0, none⟩))) 4 (.pointer (some ⟨g2, 0, none⟩))) 7 (.pointer (some ⟨g3, 0, none⟩))) ∧ Hp w0 [] w' [cells g3 72 (textC (List.replicate 32 0) (lfS x : Int) (.slice none 0 0) (lfB x : Int)), cells g2 72 (List.replicate 32 (.int .u8 0) ++ [.int .i64 0, .slice none 0 0, .int .i64 0]), cells g 67 (bys x)]) ?_ ?_
  ·skip
   refine GW_drawnK 6 (.one 0 true (.one 2 true (.two 1 5 (.two 3 5 (.one 4 true (.one 5 false (.one 6 false .nil))) (.one 3 false (.one 4 true (.one 6 false .nil)))) (.one 1 false (.one 3 false (.one 4 true (.one 6 false .nil))))))) mixed (by kernel_rfl) hp (fun _ h => (h.sub (.cons _ (.cons_cons _ .slnil)))) fun w hp => ?_
   have hpS := (hp.sub (.cons _ (.cons_cons _ .slnil)))
   refine GO_rd rfl (wn_none rfl) rfl hpS (fun w hp => (rd_loadC rfl rfl Try.underlying67 rfl ts67 (hp.get 0 rfl) (by rw [bys_length, hx]))) ?_
   refine GO_rd rfl (wn_none rfl) rfl hpS (fun w hp => (rd_loadC rfl rfl Try.underlying67 rfl ts67 (hp.get 0 rfl) (by rw [bys_length, hx]))) ?_
   refine GO_two rfl rfl ?_ ?_
   ·skip
    refine GC_of_GL ?_
    refine GL_call (wn_none rfl) rfl rfl (ref_lfNum x 36 _ hx (by decide)) rfl ?_
    rintro _ w ⟨rfl, hk⟩
    have hp := hp.comp hk
    rw [show getL ((x.drop 36).take 2) = lfS x from (lfS_eq x).symm]
    have hpS2 := (hp.sub (.cons _ (.cons_cons _ .slnil)))
    refine GL_nil ⟨fun _ => hpS2, ?_⟩
    refine GO_two rfl rfl ?_ ?_
    ·skip
     refine GC_of_GL ?_
     refine GL_call (wn_none rfl) rfl rfl (ref_lfNum x 38 _ hx (by decide)) rfl ?_
     rintro _ w ⟨rfl, hk⟩
     have hp := hp.comp hk
     rw [show getL ((x.drop 38).take 2) = lfB x from (lfB_eq x).symm]
     have hpS3 := (hp.sub (.cons _ (.cons_cons _ .slnil)))
     refine GL_nil ⟨fun _ => hpS3, ?_⟩
     refine GO_rd rfl (wn_none rfl) rfl hpS3 (fun w hp => (rd_buildF (L := (textC (List.replicate 32 0) (lfS x : Int) (.slice none 0 0) (lfB x : Int))) rfl tz72 pl72 rfl (fill_more 32 1 rfl rfl rfl (by decide) (by rw [txt_zero]; exact txt_setS List.length_replicate _ _ _ _) (fill_more 34 1 rfl rfl rfl (by rw [textC_length List.length_replicate]; decide) (txt_setB List.length_replicate _ _ _ _) (fill_done rfl))))) ?_
     refine GO_of_GL rfl ?_
     refine GL_alloc (wn_none rfl) rfl rfl tz72 rfl hp ?_
     intro g3 w hp
     have hpS4 := (hp.sub (.cons _ (.cons _ (.cons_cons _ .slnil))))
     refine GL_nil ⟨fun _ => hpS4, ?_⟩
     refine GO_of_GL rfl ?_
     refine GL_store (i := 0) (wn_none rfl) rfl rfl rfl rfl ts72 rfl (textC_length List.length_replicate _ _ _) (textC_one rfl) hp rfl (by decide) (splice_all _ _ (by rw [textC_length List.length_replicate]; rfl)) ?_
     intro w hp
     refine GL_nil ⟨fun h => absurd h (by decide), ?_⟩
     refine GO_nil ?_
     have hp := ((((hp.front 2 rfl).front 2 rfl).front 2 rfl).take 3)
     exact ⟨g3, _, slots4 rfl rfl rfl rfl, hp⟩
    ·skip
     refine GC_of_GL ?_
     refine GL_alloc (wn_none rfl) rfl rfl tz72 rfl hp ?_
     intro g4 w hp
     have hpS5 := (hp.sub (.cons _ (.cons _ (.cons_cons _ .slnil))))
     refine GL_nil ⟨fun _ => hpS5, ?_⟩
     refine GO_of_GL rfl ?_
     refine GL_call (wn_none rfl) rfl rfl (ref_lfNum x 38 _ hx (by decide)) rfl ?_
     rintro _ w ⟨rfl, hk⟩
     have hp := hp.comp hk
     rw [show getL ((x.drop 38).take 2) = lfB x from (lfB_eq x).symm]
     have hpS6 := (hp.sub (.cons _ (.cons _ (.cons_cons _ .slnil))))
     refine GL_nil ⟨fun _ => hpS6, ?_⟩
     refine GO_rd rfl (wn_none rfl) rfl hpS6 (fun w hp => (rd_buildF (L := (textC (List.replicate 32 0) (lfS x : Int) (.slice none 0 0) (lfB x : Int))) rfl tz72 pl72 rfl (fill_more 32 1 rfl rfl rfl (by decide) (by rw [txt_zero]; exact txt_setS List.length_replicate _ _ _ _) (fill_more 34 1 rfl rfl rfl (by rw [textC_length List.length_replicate]; decide) (txt_setB List.length_replicate _ _ _ _) (fill_done rfl))))) ?_
     refine GO_of_GL rfl ?_
     refine GL_store (i := 0) (wn_none rfl) rfl rfl rfl rfl ts72 rfl (textC_length List.length_replicate _ _ _) (textC_one rfl) hp rfl (by decide) (splice_all _ _ (by rw [textC_length List.length_replicate]; rfl)) ?_
     intro w hp
     refine GL_nil ⟨fun h => absurd h (by decide), ?_⟩
     refine GO_nil ?_
     have hp := ((((hp.front 2 rfl).front 2 rfl).front 2 rfl).take 3)
     exact ⟨g4, _, slots4 rfl rfl rfl rfl, hp⟩
   ·skip
    refine GC_of_GL ?_
    refine GL_alloc (wn_none rfl) rfl rfl tz72 rfl hp ?_
    intro g5 w hp
    have hpS7 := (hp.sub (.cons _ (.cons _ (.cons_cons _ .slnil))))
    refine GL_nil ⟨fun _ => hpS7, ?_⟩
    refine GO_of_GL rfl ?_
    refine GL_call (wn_none rfl) rfl rfl (ref_lfNum x 36 _ hx (by decide)) rfl ?_
    rintro _ w ⟨rfl, hk⟩
    have hp := hp.comp hk
    rw [show getL ((x.drop 36).take 2) = lfS x from (lfS_eq x).symm]
    have hpS8 := (hp.sub (.cons _ (.cons _ (.cons_cons _ .slnil))))
    refine GL_nil ⟨fun _ => hpS8, ?_⟩
    refine GO_of_GL rfl ?_
    refine GL_call (wn_none rfl) rfl rfl (ref_lfNum x 38 _ hx (by decide)) rfl ?_
    rintro _ w ⟨rfl, hk⟩
    have hp := hp.comp hk
    rw [show getL ((x.drop 38).take 2) = lfB x from (lfB_eq x).symm]
    have hpS9 := (hp.sub (.cons _ (.cons _ (.cons_cons _ .slnil))))
    refine GL_nil ⟨fun _ => hpS9, ?_⟩
    refine GO_rd rfl (wn_none rfl) rfl hpS9 (fun w hp => (rd_buildF (L := (textC (List.replicate 32 0) (lfS x : Int) (.slice none 0 0) (lfB x : Int))) rfl tz72 pl72 rfl (fill_more 32 1 rfl rfl rfl (by decide) (by rw [txt_zero]; exact txt_setS List.length_replicate _ _ _ _) (fill_more 34 1 rfl rfl rfl (by rw [textC_length List.length_replicate]; decide) (txt_setB List.length_replicate _ _ _ _) (fill_done rfl))))) ?_
    refine GO_of_GL rfl ?_
    refine GL_store (i := 0) (wn_none rfl) rfl rfl rfl rfl ts72 rfl (textC_length List.length_replicate _ _ _) (textC_one rfl) hp rfl (by decide) (splice_all _ _ (by rw [textC_length List.length_replicate]; rfl)) ?_
    intro w hp
    refine GL_nil ⟨fun h => absurd h (by decide), ?_⟩
    refine GO_nil ?_
    have hp := ((((hp.front 2 rfl).front 2 rfl).front 2 rfl).take 3)
    exact ⟨g5, _, slots4 rfl rfl rfl rfl, hp⟩
  ·rintro f w ⟨g3, fz, rfl, hp⟩
   refine GW_seq ?_
   refine GW_seq ?_
   refine GW_region ?_
   refine GL_rd (v := .int _ _) (wn_none rfl) rfl (rd_assign rfl rfl) ?_
   refine GL_nil ?_
   refine GW_block ?_
   refine GW_loop ?_
   refine Lp_ind (α := Nat) (fun a_0 f_0 w' => match a_0 with | i => ∃ fz, f_0 = (upd (upd (upd (upd (upd fz 1 (.int .i64 m)) 2 (.pointer (some ⟨g, 0, none⟩))) 4 (.pointer (some ⟨g2, 0, none⟩))) 7 (.pointer (some ⟨g3, 0, none⟩))) 8 (.int .i64 (i : Int))) ∧ Hp w0 [] w' [cells g3 72 (textC ((lfA x).take i ++ List.replicate (32 - i) 0) (lfS x : Int) (.slice none 0 0) (lfB x : Int)), cells g2 72 (List.replicate 32 (.int .u8 0) ++ [.int .i64 0, .slice none 0 0, .int .i64 0]), cells g 67 (bys x)] ∧ (i ≤ 32)) (fun a_0 => match a_0 with | i => 32 - i) ?_ 0 _ _ ?_
   ·rintro i f wz ⟨fz, rfl, hp, hi0⟩ ihL0
    refine Lp_round ?_
    refine GW_seq ?_
    refine GW_seq ?_
    refine GW_region ?_
    refine GL_rd (v := .int _ _) (wn_none rfl) rfl (rd_move rfl rfl) ?_
    refine GL_rd (wn_none rfl) rfl (rd_bin rfl rfl rfl bo_lss) ?_
    refine GL_nil ?_
    refine GW_cond rfl (fun hb2 => ?_) (fun hb2 => ?_)
    ·(try simp only [decide_eq_true_eq, decide_eq_false_iff_not, Bool.not_eq_true', Bool.not_eq_false', Bool.not_eq_eq_eq_not, Bool.not_true, Bool.not_false, Int.not_lt, Int.not_le] at hb2)
     refine GW_skip ?_
     refine GW_seq ?_
     refine GW_block ?_
     refine GW_region ?_
     refine GL_rd (v := .int _ _) (wn_none rfl) rfl (rd_move rfl rfl) ?_
     refine GL_rd (v := .int _ _) (wn_none rfl) rfl (rd_move rfl rfl) ?_
     refine GL_rd (wn_none rfl) rfl (rd_bin rfl rfl rfl (bo_add64 (by omega))) ?_
     refine GL_rd (wn_none rfl) rfl (rd_indexA (j := (4 + i)) rfl rfl rfl Try.underlying67 ts5 (by omega) (by omega) _ rfl) ?_
     refine GL_rd (wn_none rfl) rfl (rd_load rfl rfl Try.underlying5 rfl ((cell_of_cells (hp.get 2 rfl) _).trans (bys_at0 (by omega)))) ?_
     refine GL_rd (wn_none rfl) rfl (rd_field rfl rfl fa72_0 _ rfl) ?_
     refine GL_rd (wn_none rfl) rfl (rd_indexA (j := i) rfl rfl rfl Try.underlying70 ts5 rfl (by omega) _ rfl) ?_
     refine GL_store (i := 0) (wn_none rfl) rfl rfl rfl rfl ts5 rfl rfl (one1 rfl) hp rfl (by rw [textC_length (addr_len hA i (by omega))]; omega) (addr_fillX hx (by omega) _ _ _) ?_
     intro w hp
     refine GL_nil ?_
     refine GW_region ?_
     refine GL_rd (v := .int _ _) (wn_none rfl) rfl (rd_move rfl rfl) ?_
     refine GL_rd (wn_none rfl) rfl (rd_bin rfl rfl rfl (bo_add64 (by omega))) ?_
     refine GL_rd (v := .int _ _) (wn_none rfl) rfl (rd_assign rfl rfl) ?_
     refine GL_nil ?_
     exact ihL0 (i + 1) _ _ (by simp only []; omega) ⟨_, slots5 rfl rfl rfl rfl rfl, hp, by omega⟩
    ·(try simp only [decide_eq_true_eq, decide_eq_false_iff_not, Bool.not_eq_true', Bool.not_eq_false', Bool.not_eq_eq_eq_not, Bool.not_true, Bool.not_false, Int.not_lt, Int.not_le] at hb2)
     obtain rfl : i = 32 := by omega
     rw [Nat.sub_self, List.replicate_zero, List.append_nil, List.take_of_length_le (by omega)] at hp
     refine GW_exit ?_
     refine GW_seq ?_
     refine GW_seq ?_
     refine GW_region ?_
     refine GL_rd (v := .int _ _) (wn_none rfl) rfl (rd_assign rfl rfl) ?_
     refine GL_nil ?_
     refine GW_block ?_
     refine GW_loop ?_
     refine Lp_ind (α := Nat × Value) (fun a_0 f_0 w' => match a_0 with | (i, v) => ∃ fz, f_0 = (upd (upd (upd (upd (upd fz 1 (.int .i64 m)) 2 (.pointer (some ⟨g, 0, none⟩))) 4 (.pointer (some ⟨g2, 0, none⟩))) 7 (.pointer (some ⟨g3, 0, none⟩))) 9 (.int .i64 (i : Int))) ∧ Hp w0 [] w' [.row 3 1 v i ((slotsX (lfR x) i).map (Value.int .i64)), cells g3 72 (textC (lfA x) (lfS x : Int) v (lfB x : Int)), cells g2 72 (List.replicate 32 (.int .u8 0) ++ [.int .i64 0, .slice none 0 0, .int .i64 0]), cells g 67 (bys x)] ∧ (i ≤ lfQ x)) (fun a_0 => match a_0 with | (i, v) => lfQ x - i) ?_ (0, .slice none 0 0) _ _ ?_
     ·rintro ⟨i, v⟩ f wz ⟨fz, rfl, hp, hi0⟩ ihL1
      refine Lp_round ?_
      refine GW_seq ?_
      refine GW_seq ?_
      refine GW_region ?_
      refine GL_rd (v := .int _ _) (wn_none rfl) rfl (rd_move rfl rfl) ?_
      refine GL_rd (wn_none rfl) rfl (rd_field rfl rfl fa72_1 _ rfl) ?_
      refine GL_rd (wn_none rfl) rfl (rd_load rfl rfl Try.underlying3 rfl ((cell_of_cells (hp.get 1 rfl) _).trans (txt32 hA _ _ _))) ?_
      refine GL_rd (wn_none rfl) rfl (rd_bin rfl rfl rfl (bo_add64 (by omega))) ?_
      refine GL_rd (wn_none rfl) rfl (rd_bin rfl rfl rfl (bo_quo64 (by omega) (by omega) (by omega))) ?_
      refine GL_rd (wn_none rfl) rfl (rd_bin rfl rfl rfl bo_lss) ?_
      refine GL_rd (v := .bool _) (wn_none rfl) rfl (rd_move rfl rfl) ?_
      refine GL_split (t := 38) (b := _) rfl ?_ ?_
      ·intro hb3; (try simp only [decide_eq_true_eq, decide_eq_false_iff_not, Bool.not_eq_true', Bool.not_eq_false', Bool.not_eq_eq_eq_not, Bool.not_true, Bool.not_false, Int.not_lt, Int.not_le] at hb3)
       refine GL_rd (v := .int _ _) (wn_on rfl rfl rfl rfl) rfl (rd_move rfl rfl) ?_
       refine GL_rd (wn_on rfl rfl rfl rfl) rfl (rd_bin rfl rfl rfl bo_lss) ?_
       refine GL_rd (v := .bool _) (wn_none rfl) rfl (rd_pickT rfl rfl rfl) ?_
       refine GL_nil ?_
       refine GW_cond rfl (fun hb4 => ?_) (fun hb4 => ?_)
       ·(try simp only [decide_eq_true_eq, decide_eq_false_iff_not, Bool.not_eq_true', Bool.not_eq_false', Bool.not_eq_eq_eq_not, Bool.not_true, Bool.not_false, Int.not_lt, Int.not_le] at hb4)
        have hiq : i < lfQ x := by unfold lfQ; omega
        refine GW_skip ?_
        refine GW_seq ?_
        refine GW_block ?_
        refine GW_drawnK 10 (.one 0 true (.one 1 true (.one 2 true (.one 3 true (.one 4 true (.one 5 true (.one 6 true (.one 7 false (.one 8 false (.one 9 true (.one 10 false .nil))))))))))) mixed (by kernel_rfl) hp (fun _ h => (h.sub (.cons _ (.cons_cons _ (.cons _ (.cons_cons _ .slnil)))))) fun w hp => ?_
        have hpS10 := (hp.sub (.cons _ (.cons_cons _ (.cons _ (.cons_cons _ .slnil)))))
        refine GO_rd rfl (wn_none rfl) rfl hpS10 (fun w hp => (rd_field rfl rfl fa72_2 _ rfl)) ?_
        refine GO_rd rfl (wn_none rfl) rfl hpS10 (fun w hp => (rd_load rfl rfl Try.underlying57 rfl ((cell_of_cells (hp.get 0 rfl) _).trans (txt33 hA _ _ _)))) ?_
        refine GO_rd (v := .int _ _) rfl (wn_none rfl) rfl hpS10 (fun w hp => (rd_move rfl rfl)) ?_
        refine GO_rd rfl (wn_none rfl) rfl hpS10 (fun w hp => (rd_bin rfl rfl rfl (bo_add64 (by omega)))) ?_
        refine GO_rd rfl (wn_none rfl) rfl hpS10 (fun w hp => (rd_indexA (j := (40 + i)) rfl rfl rfl Try.underlying67 ts5 (by omega) (by omega) _ rfl)) ?_
        refine GO_rd rfl (wn_none rfl) rfl hpS10 (fun w hp => (rd_load rfl rfl Try.underlying5 rfl ((cell_of_cells (hp.get 1 rfl) _).trans (bys_at0 (by omega))))) ?_
        refine GO_rd rfl (wn_none rfl) rfl hpS10 (fun w hp => (rd_conv8 .i64 rfl rfl Try.underlying3 Try.underlying5 (by simp))) ?_
        refine GO_of_GL rfl ?_
        refine GL_lit (L := [.int .i64 ((x.getD (40 + i) 0).toNat : Int)]) (wn_none rfl) rfl rfl Try.underlying57 ts3 tz3 rfl (by kernel_rfl) rfl rfl hp ?_
        intro g6 w hp
        have hpS11 := (hp.sub (.cons _ (.cons _ (.cons_cons _ (.cons _ (.cons_cons _ .slnil))))))
        refine GL_nil ⟨fun _ => hpS11, ?_⟩
        refine GO_of_GL rfl ?_
        refine GL_append (i := 1) (wn_none rfl) rfl rfl rfl rfl Try.underlying57 ti3 rfl (by decide) hp rfl (Sl.row (hp.get 0 rfl)) (one1 rfl) (by omega) (by omega) ?_
        intro v w hp
        obtain ⟨Av, cv, rfl⟩ := row_shape (hp.get 1 rfl)
        have hpS12 := (hp.sub (.cons _ (.cons _ (.cons_cons _ (.cons _ (.cons_cons _ .slnil))))))
        refine GL_nil ⟨fun _ => hpS12, ?_⟩
        refine GO_rd rfl (wn_none rfl) rfl hpS12 (fun w hp => (rd_field rfl rfl fa72_2 _ rfl)) ?_
        refine GO_of_GL rfl ?_
        refine GL_store (i := 2) (wn_none rfl) rfl rfl rfl rfl ts57 rfl rfl (one1 rfl) hp rfl (by rw [textC_length hA]; decide) (txt_set hA _ _ _ _) ?_
        intro w hp
        refine GL_nil ⟨fun h => absurd h (by decide), ?_⟩
        refine GO_nil ?_
        refine GW_region ?_
        refine GL_rd (v := .int _ _) (wn_none rfl) rfl (rd_move rfl rfl) ?_
        refine GL_rd (wn_none rfl) rfl (rd_bin rfl rfl rfl (bo_add64 (by omega))) ?_
        refine GL_rd (v := .int _ _) (wn_none rfl) rfl (rd_assign rfl rfl) ?_
        refine GL_nil ?_
        have hp := (((((hp.front 4 rfl).front 4 rfl).front 4 rfl).front 4 rfl).take 4)
        have hp : Hp w0 [] w [.row 3 1 (.slice Av (i + 1) cv) (i + 1) ((slotsX (lfR x) (i + 1)).map (Value.int .i64)), cells g3 72 (textC (lfA x) (lfS x : Int) (.slice Av (i + 1) cv) (lfB x : Int)), cells g2 72 (List.replicate 32 (.int .u8 0) ++ [.int .i64 0, .slice none 0 0, .int .i64 0]), cells g 67 (bys x)] := by rw [slotsX_succ (by omega), lfR_at hx (by omega), List.map_append]; exact hp
        exact ihL1 (i + 1, .slice Av (i + 1) cv) _ _ (by simp only []; omega) ⟨_, slots5 rfl rfl rfl rfl rfl, hp, by omega⟩
       ·(try simp only [decide_eq_true_eq, decide_eq_false_iff_not, Bool.not_eq_true', Bool.not_eq_false', Bool.not_eq_eq_eq_not, Bool.not_true, Bool.not_false, Int.not_lt, Int.not_le] at hb4)
        have hiq2 : ¬ i < lfQ x := by unfold lfQ; omega
        obtain rfl : i = lfQ x := by omega
        obtain ⟨Az, cz, rfl⟩ := row_shape (hp.get 0 rfl)
        refine GW_exit ?_
        refine GW_seq ?_
        refine GW_region ?_
        refine GL_rd (wn_none rfl) rfl (rd_loadC rfl rfl Try.underlying72 rfl ts72 (hp.get 1 rfl) (textC_length hA _ _ _)) ?_
        refine GL_call (wn_none rfl) rfl rfl (ref_leafPut (lfA x) (lfS x) _ (lfB x) (lfQ x) (slotsX (lfR x) (lfQ x)) _ hA (Sl.row (hp.get 0 rfl)) (by omega)) rfl ?_
        rintro _ w ⟨rfl, hk⟩
        have hp := hp.comp hk
        refine GL_rd (v := .tuple _) (wn_none rfl) rfl (rd_move rfl rfl) ?_
        refine GL_rd (v := .agg ⟨_⟩) (wn_none rfl) rfl (rd_extract rfl rfl rfl) ?_
        refine GL_rd (v := .int _ _) (wn_none rfl) rfl (rd_extract rfl rfl rfl) ?_
        refine GL_alloc (wn_none rfl) rfl rfl tz67 rfl hp ?_
        intro g7 w hp
        refine GL_store (i := 0) (wn_none rfl) rfl rfl rfl rfl ts67 rfl (by rw [bys_length, leafS_length]) (bys_one _) hp rfl (by rw [List.length_replicate]; omega) (splice_all _ _ (by rw [bys_length, leafS_length, List.length_replicate])) ?_
        intro w hp
        refine GL_rd (v := .int _ _) (wn_none rfl) rfl (rd_assign rfl rfl) ?_
        refine GL_nil ?_
        refine GW_seq ?_
        refine GW_seq ?_
        refine GW_region ?_
        refine GL_rd (v := .int _ _) (wn_none rfl) rfl (rd_move rfl rfl) ?_
        refine GL_rd (wn_none rfl) rfl (rd_bin rfl rfl rfl bo_neq) ?_
        refine GL_rd (v := .bool _) (wn_none rfl) rfl (rd_move rfl rfl) ?_
        refine GL_split (t := 61) (b := _) rfl ?_ ?_
        ·intro hb5; (try simp only [decide_eq_true_eq, decide_eq_false_iff_not, Bool.not_eq_true', Bool.not_eq_false', Bool.not_eq_eq_eq_not, Bool.not_true, Bool.not_false, Int.not_lt, Int.not_le] at hb5)
         have hbad : leafGd x m = false := by cases hq : leafGd x m with | false => rfl | true => exact absurd ((leaf_iff hx m).1 hq) (fun hh => hb5 hh.1)
         refine GL_pass (nw_off rfl rfl rfl rfl rfl) rfl ?_
         refine GL_pass (nw_off rfl rfl rfl rfl rfl) rfl ?_
         refine GL_pass (nw_off rfl rfl rfl rfl rfl) rfl ?_
         refine GL_rd (v := .bool _) (wn_none rfl) rfl (rd_pickT rfl rfl rfl) ?_
         refine GL_rd (v := .bool _) (wn_none rfl) rfl (rd_move rfl rfl) ?_
         refine GL_pass (nw_off rfl rfl rfl rfl rfl) rfl ?_
         refine GL_pass (nw_off rfl rfl rfl rfl rfl) rfl ?_
         refine GL_pass (nw_off rfl rfl rfl rfl rfl) rfl ?_
         refine GL_pass (nw_off rfl rfl rfl rfl rfl) rfl ?_
         refine GL_rd (v := .bool _) (wn_none rfl) rfl (rd_pickT rfl rfl rfl) ?_
         refine GL_nil ?_
         refine GW_true rfl ?_
         refine GW_seq ?_
         refine GW_region ?_
         refine GL_rd (wn_none rfl) rfl (rd_buildS (L := List.replicate 32 (.int .u8 0) ++ [.int .i64 0, .slice none 0 0, .int .i64 0]) rfl tz72 pl72 (by kernel_rfl)) ?_
         refine GL_store (i := 3) (wn_none rfl) rfl rfl rfl rfl ts72 rfl rfl (by rw [txt_zero]; exact textC_one rfl) hp rfl (by decide) (splice_all _ _ rfl) ?_
         intro w hp
         refine GL_rd (v := .bool _) (wn_none rfl) rfl (rd_assign rfl rfl) ?_
         refine GL_rd (v := .bool _) (wn_none rfl) rfl (rd_assign rfl rfl) ?_
         refine GL_nil ?_
         refine GW_ret ?_
         have hE := lgE_no hbad hz
         refine ⟨_, res3 Try.results54 (rv_cell rfl rfl Try.underlying72 rfl ts72 (by first | exact textC_length hA _ _ _ | rfl) (hp.get 3 rfl)) (rv_tmp (v := .bool _) rfl rfl) (rv_tmp (v := .bool _) rfl rfl), .slice none 0 0, by rw [← lg_txt hbad, hbad, hE.2], ?_⟩
         rw [(lg_no hbad).2.2.2.1]
         exact hp.mods.nilRow _ _
        ·intro hb5; (try simp only [decide_eq_true_eq, decide_eq_false_iff_not, Bool.not_eq_true', Bool.not_eq_false', Bool.not_eq_eq_eq_not, Bool.not_true, Bool.not_false, Int.not_lt, Int.not_le] at hb5)
         have hc := hb5
         refine GL_rd (wn_on rfl rfl rfl rfl) rfl (rd_loadC rfl rfl Try.underlying67 rfl ts67 (hp.get 0 rfl) (by rw [bys_length, leafS_length])) ?_
         refine GL_rd (wn_on rfl rfl rfl rfl) rfl (rd_loadC rfl rfl Try.underlying67 rfl ts67 (hp.get 4 rfl) (by rw [bys_length, hx])) ?_
         refine GL_rd (wn_on rfl rfl rfl rfl) rfl (rd_bin rfl rfl rfl (bo_arrB Try.underlying67 Try.underlying5 ts5 (by kernel_rfl) (leafS_length _ _ _ _) hx).2) ?_
         refine GL_rd (v := .bool _) (wn_none rfl) rfl (rd_pickF rfl rfl rfl) ?_
         refine GL_rd (v := .bool _) (wn_none rfl) rfl (rd_move rfl rfl) ?_
         refine GL_split (t := 66) (b := _) rfl ?_ ?_
         ·intro hb6; (try simp only [decide_eq_true_eq, decide_eq_false_iff_not, Bool.not_eq_true', Bool.not_eq_false', Bool.not_eq_eq_eq_not, Bool.not_true, Bool.not_false, Int.not_lt, Int.not_le] at hb6)
          have hbad : leafGd x m = false := by cases hq : leafGd x m with | false => rfl | true => exact absurd ((leaf_iff hx m).1 hq) (fun hh => hb6 hh.2.1)
          refine GL_pass (nw_off rfl rfl rfl rfl rfl) rfl ?_
          refine GL_pass (nw_off rfl rfl rfl rfl rfl) rfl ?_
          refine GL_pass (nw_off rfl rfl rfl rfl rfl) rfl ?_
          refine GL_pass (nw_off rfl rfl rfl rfl rfl) rfl ?_
          refine GL_rd (v := .bool _) (wn_none rfl) rfl (rd_pickT rfl rfl rfl) ?_
          refine GL_nil ?_
          refine GW_true rfl ?_
          refine GW_seq ?_
          refine GW_region ?_
          refine GL_rd (wn_none rfl) rfl (rd_buildS (L := List.replicate 32 (.int .u8 0) ++ [.int .i64 0, .slice none 0 0, .int .i64 0]) rfl tz72 pl72 (by kernel_rfl)) ?_
          refine GL_store (i := 3) (wn_none rfl) rfl rfl rfl rfl ts72 rfl rfl (by rw [txt_zero]; exact textC_one rfl) hp rfl (by decide) (splice_all _ _ rfl) ?_
          intro w hp
          refine GL_rd (v := .bool _) (wn_none rfl) rfl (rd_assign rfl rfl) ?_
          refine GL_rd (v := .bool _) (wn_none rfl) rfl (rd_assign rfl rfl) ?_
          refine GL_nil ?_
          refine GW_ret ?_
          have hE := lgE_no hbad hz
          refine ⟨_, res3 Try.results54 (rv_cell rfl rfl Try.underlying72 rfl ts72 (by first | exact textC_length hA _ _ _ | rfl) (hp.get 3 rfl)) (rv_tmp (v := .bool _) rfl rfl) (rv_tmp (v := .bool _) rfl rfl), .slice none 0 0, by rw [← lg_txt hbad, hbad, hE.2], ?_⟩
          rw [(lg_no hbad).2.2.2.1]
          exact hp.mods.nilRow _ _
         ·intro hb6; (try simp only [decide_eq_true_eq, decide_eq_false_iff_not, Bool.not_eq_true', Bool.not_eq_false', Bool.not_eq_eq_eq_not, Bool.not_true, Bool.not_false, Int.not_lt, Int.not_le] at hb6)
          have hs := hb6
          refine GL_rd (wn_on rfl rfl rfl rfl) rfl (rd_loadC rfl rfl Try.underlying72 rfl ts72 (hp.get 2 rfl) (textC_length hA _ _ _)) ?_
          refine GL_rd (v := .int _ _) (wn_on rfl rfl rfl rfl) rfl (rd_move rfl rfl) ?_
          refine GL_call (wn_on rfl rfl rfl rfl) rfl rfl (ref_leafCheck (lfA x) (lfS x) _ (lfB x) (lfQ x) (slotsX (lfR x) (lfQ x)) m _ hA (Sl.row (hp.get 1 rfl)) (by omega)) rfl ?_
          rintro _ w ⟨rfl, hk⟩
          have hp := hp.comp hk
          refine GL_rd (wn_on rfl rfl rfl rfl) rfl (rd_bin rfl rfl rfl bo_neq) ?_
          refine GL_rd (v := .bool _) (wn_none rfl) rfl (rd_pickF rfl rfl rfl) ?_
          refine GL_nil ?_
          refine GW_cond rfl (fun hb7 => ?_) (fun hb7 => ?_)
          ·(try simp only [decide_eq_true_eq, decide_eq_false_iff_not, Bool.not_eq_true', Bool.not_eq_false', Bool.not_eq_eq_eq_not, Bool.not_true, Bool.not_false, Int.not_lt, Int.not_le] at hb7)
           have hbad : leafGd x m = false := by cases hq : leafGd x m with | false => rfl | true => exact absurd ((leaf_iff hx m).1 hq) (fun hh => hb7 hh.2.2)
           refine GW_seq ?_
           refine GW_region ?_
           refine GL_rd (wn_none rfl) rfl (rd_buildS (L := List.replicate 32 (.int .u8 0) ++ [.int .i64 0, .slice none 0 0, .int .i64 0]) rfl tz72 pl72 (by kernel_rfl)) ?_
           refine GL_store (i := 3) (wn_none rfl) rfl rfl rfl rfl ts72 rfl rfl (by rw [txt_zero]; exact textC_one rfl) hp rfl (by decide) (splice_all _ _ rfl) ?_
           intro w hp
           refine GL_rd (v := .bool _) (wn_none rfl) rfl (rd_assign rfl rfl) ?_
           refine GL_rd (v := .bool _) (wn_none rfl) rfl (rd_assign rfl rfl) ?_
           refine GL_nil ?_
           refine GW_ret ?_
           have hE := lgE_no hbad hz
           refine ⟨_, res3 Try.results54 (rv_cell rfl rfl Try.underlying72 rfl ts72 (by first | exact textC_length hA _ _ _ | rfl) (hp.get 3 rfl)) (rv_tmp (v := .bool _) rfl rfl) (rv_tmp (v := .bool _) rfl rfl), .slice none 0 0, by rw [← lg_txt hbad, hbad, hE.2], ?_⟩
           rw [(lg_no hbad).2.2.2.1]
           exact hp.mods.nilRow _ _
          ·(try simp only [decide_eq_true_eq, decide_eq_false_iff_not, Bool.not_eq_true', Bool.not_eq_false', Bool.not_eq_eq_eq_not, Bool.not_true, Bool.not_false, Int.not_lt, Int.not_le] at hb7)
           have hgd : leafGd x m = true := (leaf_iff hx m).2 ⟨hc, hs, hb7⟩
           have hkq : lfK x = lfQ x := by have q := (leafC_zero.1 hc); exact leaf_kq (by omega) (by omega)
           refine GW_skip ?_
           refine GW_seq ?_
           refine GW_region ?_
           refine GL_rd (wn_none rfl) rfl (rd_loadC rfl rfl Try.underlying72 rfl ts72 (hp.get 2 rfl) (textC_length hA _ _ _)) ?_
           refine GL_store (i := 3) (wn_none rfl) rfl rfl rfl rfl ts72 rfl (textC_length hA _ _ _) (textC_one rfl) hp rfl (by decide) (splice_all _ _ (by rw [textC_length hA]; rfl)) ?_
           intro w hp
           refine GL_rd (v := .bool _) (wn_none rfl) rfl (rd_assign rfl rfl) ?_
           refine GL_rd (v := .bool _) (wn_none rfl) rfl (rd_assign rfl rfl) ?_
           refine GL_nil ?_
           refine GW_ret ?_
           have hy := lg_yes hgd
           refine ⟨_, res3 Try.results54 (rv_cell rfl rfl Try.underlying72 rfl ts72 (by first | exact textC_length hA _ _ _ | rfl) (hp.get 3 rfl)) (rv_tmp (v := .bool _) rfl rfl) (rv_tmp (v := .bool _) rfl rfl), _, by rw [hy.1, hy.2.1, hy.2.2.1, hgd, hy.2.2.2.2.1], ?_⟩
           rw [hy.2.2.2.1, slotsX_length (by omega)]
           rw [hkq]
           have hp := ((hp.front 1 rfl).take 1)
           exact hp
      ·intro hb3; (try simp only [decide_eq_true_eq, decide_eq_false_iff_not, Bool.not_eq_true', Bool.not_eq_false', Bool.not_eq_eq_eq_not, Bool.not_true, Bool.not_false, Int.not_lt, Int.not_le] at hb3)
       have hiq2 : ¬ i < lfQ x := by unfold lfQ; omega
       obtain rfl : i = lfQ x := by omega
       obtain ⟨Az, cz, rfl⟩ := row_shape (hp.get 0 rfl)
       refine GL_pass (nw_off rfl rfl rfl rfl rfl) rfl ?_
       refine GL_pass (nw_off rfl rfl rfl rfl rfl) rfl ?_
       refine GL_rd (v := .bool _) (wn_none rfl) rfl (rd_pickF rfl rfl rfl) ?_
       refine GL_nil ?_
       refine GW_false rfl ?_
       refine GW_exit ?_
       refine GW_seq ?_
       refine GW_region ?_
       refine GL_rd (wn_none rfl) rfl (rd_loadC rfl rfl Try.underlying72 rfl ts72 (hp.get 1 rfl) (textC_length hA _ _ _)) ?_
       refine GL_call (wn_none rfl) rfl rfl (ref_leafPut (lfA x) (lfS x) _ (lfB x) (lfQ x) (slotsX (lfR x) (lfQ x)) _ hA (Sl.row (hp.get 0 rfl)) (by omega)) rfl ?_
       rintro _ w ⟨rfl, hk⟩
       have hp := hp.comp hk
       refine GL_rd (v := .tuple _) (wn_none rfl) rfl (rd_move rfl rfl) ?_
       refine GL_rd (v := .agg ⟨_⟩) (wn_none rfl) rfl (rd_extract rfl rfl rfl) ?_
       refine GL_rd (v := .int _ _) (wn_none rfl) rfl (rd_extract rfl rfl rfl) ?_
       refine GL_alloc (wn_none rfl) rfl rfl tz67 rfl hp ?_
       intro g8 w hp
       refine GL_store (i := 0) (wn_none rfl) rfl rfl rfl rfl ts67 rfl (by rw [bys_length, leafS_length]) (bys_one _) hp rfl (by rw [List.length_replicate]; omega) (splice_all _ _ (by rw [bys_length, leafS_length, List.length_replicate])) ?_
       intro w hp
       refine GL_rd (v := .int _ _) (wn_none rfl) rfl (rd_assign rfl rfl) ?_
       refine GL_nil ?_
       refine GW_seq ?_
       refine GW_seq ?_
       refine GW_region ?_
       refine GL_rd (v := .int _ _) (wn_none rfl) rfl (rd_move rfl rfl) ?_
       refine GL_rd (wn_none rfl) rfl (rd_bin rfl rfl rfl bo_neq) ?_
       refine GL_rd (v := .bool _) (wn_none rfl) rfl (rd_move rfl rfl) ?_
       refine GL_split (t := 61) (b := _) rfl ?_ ?_
       ·intro hb8; (try simp only [decide_eq_true_eq, decide_eq_false_iff_not, Bool.not_eq_true', Bool.not_eq_false', Bool.not_eq_eq_eq_not, Bool.not_true, Bool.not_false, Int.not_lt, Int.not_le] at hb8)
        have hbad : leafGd x m = false := by cases hq : leafGd x m with | false => rfl | true => exact absurd ((leaf_iff hx m).1 hq) (fun hh => hb8 hh.1)
        refine GL_pass (nw_off rfl rfl rfl rfl rfl) rfl ?_
        refine GL_pass (nw_off rfl rfl rfl rfl rfl) rfl ?_
        refine GL_pass (nw_off rfl rfl rfl rfl rfl) rfl ?_
        refine GL_rd (v := .bool _) (wn_none rfl) rfl (rd_pickT rfl rfl rfl) ?_
        refine GL_rd (v := .bool _) (wn_none rfl) rfl (rd_move rfl rfl) ?_
        refine GL_pass (nw_off rfl rfl rfl rfl rfl) rfl ?_
        refine GL_pass (nw_off rfl rfl rfl rfl rfl) rfl ?_
        refine GL_pass (nw_off rfl rfl rfl rfl rfl) rfl ?_
        refine GL_pass (nw_off rfl rfl rfl rfl rfl) rfl ?_
        refine GL_rd (v := .bool _) (wn_none rfl) rfl (rd_pickT rfl rfl rfl) ?_
        refine GL_nil ?_
        refine GW_true rfl ?_
        refine GW_seq ?_
        refine GW_region ?_
        refine GL_rd (wn_none rfl) rfl (rd_buildS (L := List.replicate 32 (.int .u8 0) ++ [.int .i64 0, .slice none 0 0, .int .i64 0]) rfl tz72 pl72 (by kernel_rfl)) ?_
        refine GL_store (i := 3) (wn_none rfl) rfl rfl rfl rfl ts72 rfl rfl (by rw [txt_zero]; exact textC_one rfl) hp rfl (by decide) (splice_all _ _ rfl) ?_
        intro w hp
        refine GL_rd (v := .bool _) (wn_none rfl) rfl (rd_assign rfl rfl) ?_
        refine GL_rd (v := .bool _) (wn_none rfl) rfl (rd_assign rfl rfl) ?_
        refine GL_nil ?_
        refine GW_ret ?_
        have hE := lgE_no hbad hz
        refine ⟨_, res3 Try.results54 (rv_cell rfl rfl Try.underlying72 rfl ts72 (by first | exact textC_length hA _ _ _ | rfl) (hp.get 3 rfl)) (rv_tmp (v := .bool _) rfl rfl) (rv_tmp (v := .bool _) rfl rfl), .slice none 0 0, by rw [← lg_txt hbad, hbad, hE.2], ?_⟩
        rw [(lg_no hbad).2.2.2.1]
        exact hp.mods.nilRow _ _
       ·intro hb8; (try simp only [decide_eq_true_eq, decide_eq_false_iff_not, Bool.not_eq_true', Bool.not_eq_false', Bool.not_eq_eq_eq_not, Bool.not_true, Bool.not_false, Int.not_lt, Int.not_le] at hb8)
        have hc := hb8
        refine GL_rd (wn_on rfl rfl rfl rfl) rfl (rd_loadC rfl rfl Try.underlying67 rfl ts67 (hp.get 0 rfl) (by rw [bys_length, leafS_length])) ?_
        refine GL_rd (wn_on rfl rfl rfl rfl) rfl (rd_loadC rfl rfl Try.underlying67 rfl ts67 (hp.get 4 rfl) (by rw [bys_length, hx])) ?_
        refine GL_rd (wn_on rfl rfl rfl rfl) rfl (rd_bin rfl rfl rfl (bo_arrB Try.underlying67 Try.underlying5 ts5 (by kernel_rfl) (leafS_length _ _ _ _) hx).2) ?_
        refine GL_rd (v := .bool _) (wn_none rfl) rfl (rd_pickF rfl rfl rfl) ?_
        refine GL_rd (v := .bool _) (wn_none rfl) rfl (rd_move rfl rfl) ?_
        refine GL_split (t := 66) (b := _) rfl ?_ ?_
        ·intro hb9; (try simp only [decide_eq_true_eq, decide_eq_false_iff_not, Bool.not_eq_true', Bool.not_eq_false', Bool.not_eq_eq_eq_not, Bool.not_true, Bool.not_false, Int.not_lt, Int.not_le] at hb9)
         have hbad : leafGd x m = false := by cases hq : leafGd x m with | false => rfl | true => exact absurd ((leaf_iff hx m).1 hq) (fun hh => hb9 hh.2.1)
         refine GL_pass (nw_off rfl rfl rfl rfl rfl) rfl ?_
         refine GL_pass (nw_off rfl rfl rfl rfl rfl) rfl ?_
         refine GL_pass (nw_off rfl rfl rfl rfl rfl) rfl ?_
         refine GL_pass (nw_off rfl rfl rfl rfl rfl) rfl ?_
         refine GL_rd (v := .bool _) (wn_none rfl) rfl (rd_pickT rfl rfl rfl) ?_
         refine GL_nil ?_
         refine GW_true rfl ?_
         refine GW_seq ?_
         refine GW_region ?_
         refine GL_rd (wn_none rfl) rfl (rd_buildS (L := List.replicate 32 (.int .u8 0) ++ [.int .i64 0, .slice none 0 0, .int .i64 0]) rfl tz72 pl72 (by kernel_rfl)) ?_
         refine GL_store (i := 3) (wn_none rfl) rfl rfl rfl rfl ts72 rfl rfl (by rw [txt_zero]; exact textC_one rfl) hp rfl (by decide) (splice_all _ _ rfl) ?_
         intro w hp
         refine GL_rd (v := .bool _) (wn_none rfl) rfl (rd_assign rfl rfl) ?_
         refine GL_rd (v := .bool _) (wn_none rfl) rfl (rd_assign rfl rfl) ?_
         refine GL_nil ?_
         refine GW_ret ?_
         have hE := lgE_no hbad hz
         refine ⟨_, res3 Try.results54 (rv_cell rfl rfl Try.underlying72 rfl ts72 (by first | exact textC_length hA _ _ _ | rfl) (hp.get 3 rfl)) (rv_tmp (v := .bool _) rfl rfl) (rv_tmp (v := .bool _) rfl rfl), .slice none 0 0, by rw [← lg_txt hbad, hbad, hE.2], ?_⟩
         rw [(lg_no hbad).2.2.2.1]
         exact hp.mods.nilRow _ _
        ·intro hb9; (try simp only [decide_eq_true_eq, decide_eq_false_iff_not, Bool.not_eq_true', Bool.not_eq_false', Bool.not_eq_eq_eq_not, Bool.not_true, Bool.not_false, Int.not_lt, Int.not_le] at hb9)
         have hs := hb9
         refine GL_rd (wn_on rfl rfl rfl rfl) rfl (rd_loadC rfl rfl Try.underlying72 rfl ts72 (hp.get 2 rfl) (textC_length hA _ _ _)) ?_
         refine GL_rd (v := .int _ _) (wn_on rfl rfl rfl rfl) rfl (rd_move rfl rfl) ?_
         refine GL_call (wn_on rfl rfl rfl rfl) rfl rfl (ref_leafCheck (lfA x) (lfS x) _ (lfB x) (lfQ x) (slotsX (lfR x) (lfQ x)) m _ hA (Sl.row (hp.get 1 rfl)) (by omega)) rfl ?_
         rintro _ w ⟨rfl, hk⟩
         have hp := hp.comp hk
         refine GL_rd (wn_on rfl rfl rfl rfl) rfl (rd_bin rfl rfl rfl bo_neq) ?_
         refine GL_rd (v := .bool _) (wn_none rfl) rfl (rd_pickF rfl rfl rfl) ?_
         refine GL_nil ?_
         refine GW_cond rfl (fun hb10 => ?_) (fun hb10 => ?_)
         ·(try simp only [decide_eq_true_eq, decide_eq_false_iff_not, Bool.not_eq_true', Bool.not_eq_false', Bool.not_eq_eq_eq_not, Bool.not_true, Bool.not_false, Int.not_lt, Int.not_le] at hb10)
          have hbad : leafGd x m = false := by cases hq : leafGd x m with | false => rfl | true => exact absurd ((leaf_iff hx m).1 hq) (fun hh => hb10 hh.2.2)
          refine GW_seq ?_
          refine GW_region ?_
          refine GL_rd (wn_none rfl) rfl (rd_buildS (L := List.replicate 32 (.int .u8 0) ++ [.int .i64 0, .slice none 0 0, .int .i64 0]) rfl tz72 pl72 (by kernel_rfl)) ?_
          refine GL_store (i := 3) (wn_none rfl) rfl rfl rfl rfl ts72 rfl rfl (by rw [txt_zero]; exact textC_one rfl) hp rfl (by decide) (splice_all _ _ rfl) ?_
          intro w hp
          refine GL_rd (v := .bool _) (wn_none rfl) rfl (rd_assign rfl rfl) ?_
          refine GL_rd (v := .bool _) (wn_none rfl) rfl (rd_assign rfl rfl) ?_
          refine GL_nil ?_
          refine GW_ret ?_
          have hE := lgE_no hbad hz
          refine ⟨_, res3 Try.results54 (rv_cell rfl rfl Try.underlying72 rfl ts72 (by first | exact textC_length hA _ _ _ | rfl) (hp.get 3 rfl)) (rv_tmp (v := .bool _) rfl rfl) (rv_tmp (v := .bool _) rfl rfl), .slice none 0 0, by rw [← lg_txt hbad, hbad, hE.2], ?_⟩
          rw [(lg_no hbad).2.2.2.1]
          exact hp.mods.nilRow _ _
         ·(try simp only [decide_eq_true_eq, decide_eq_false_iff_not, Bool.not_eq_true', Bool.not_eq_false', Bool.not_eq_eq_eq_not, Bool.not_true, Bool.not_false, Int.not_lt, Int.not_le] at hb10)
          have hgd : leafGd x m = true := (leaf_iff hx m).2 ⟨hc, hs, hb10⟩
          have hkq : lfK x = lfQ x := by have q := (leafC_zero.1 hc); exact leaf_kq (by omega) (by omega)
          refine GW_skip ?_
          refine GW_seq ?_
          refine GW_region ?_
          refine GL_rd (wn_none rfl) rfl (rd_loadC rfl rfl Try.underlying72 rfl ts72 (hp.get 2 rfl) (textC_length hA _ _ _)) ?_
          refine GL_store (i := 3) (wn_none rfl) rfl rfl rfl rfl ts72 rfl (textC_length hA _ _ _) (textC_one rfl) hp rfl (by decide) (splice_all _ _ (by rw [textC_length hA]; rfl)) ?_
          intro w hp
          refine GL_rd (v := .bool _) (wn_none rfl) rfl (rd_assign rfl rfl) ?_
          refine GL_rd (v := .bool _) (wn_none rfl) rfl (rd_assign rfl rfl) ?_
          refine GL_nil ?_
          refine GW_ret ?_
          have hy := lg_yes hgd
          refine ⟨_, res3 Try.results54 (rv_cell rfl rfl Try.underlying72 rfl ts72 (by first | exact textC_length hA _ _ _ | rfl) (hp.get 3 rfl)) (rv_tmp (v := .bool _) rfl rfl) (rv_tmp (v := .bool _) rfl rfl), _, by rw [hy.1, hy.2.1, hy.2.2.1, hgd, hy.2.2.2.2.1], ?_⟩
          rw [hy.2.2.2.1, slotsX_length (by omega)]
          rw [hkq]
          have hp := ((hp.front 1 rfl).take 1)
          exact hp
     ·have hp := hp.nilRow 3 1
      refine ⟨_, slots5 rfl rfl rfl rfl rfl, hp, Nat.zero_le _⟩
   ·refine ⟨_, slots5 rfl rfl rfl rfl rfl, hp, Nat.zero_le _⟩

end Go.Proofs.Ytjbbknjhgdmdkaa
