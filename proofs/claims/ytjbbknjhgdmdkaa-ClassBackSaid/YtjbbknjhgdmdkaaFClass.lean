/- Walks of functions of the program. -/
import Derived.Test.YtjbbknjhgdmdkaaActs
import Derived.Test.YtjbbknjhgdmdkaaTypes
import Derived.Test.YtjbbknjhgdmdkaaClassS
import Derived.Test.YtjbbknjhgdmdkaaFSeal
set_option linter.unusedVariables false
set_option linter.unusedSimpArgs false
namespace Go.Proofs.Ytjbbknjhgdmdkaa
open Go.Mo Go.RowKit
theorem clsAt : ClsAt Try.prog 97 := ⟨_, _, _, _, _, Try.underlying97, by kernel_rfl, by kernel_rfl, rfl, ⟨by decide, rfl, Try.underlying9⟩, ⟨by decide, rfl, Try.underlying3⟩, ⟨by decide, rfl, Try.underlying4⟩, ⟨by decide, rfl, Try.underlying4⟩⟩
theorem cl_Name (s : ByteArray) (w0 : World) (hs : s.size ≤ 140737488351232) : Does Try.prog 65 #[.string s] w0 fun v w' => v = .int .i64 (nameC s) ∧ Hp w0 [] w' [] := by
 refine does_of (l := [.string s]) Try.func65 (by kernel_rfl) rfl Try.ntmps65 rfl rfl ?_
 have hp := Hp.refl w0 []
 refine GW_seq ?_
 refine GW_region ?_
 refine GL_rd (v := .int _ _) (wn_none rfl) rfl (rd_assign rfl rfl) ?_
 refine GL_nil ?_
 refine GW_seq ?_
 refine GW_seq ?_
 refine GW_region ?_
 refine GL_rd (v := .string _) (wn_none rfl) rfl (rd_move rfl rfl) ?_
 refine GL_rd (wn_none rfl) rfl (rd_bin rfl rfl rfl bo_seql) ?_
 refine GL_rd (v := .bool _) (wn_none rfl) rfl (rd_move rfl rfl) ?_
 refine GL_split (t := 7) (b := _) rfl ?_ ?_
 ·intro hb; (try simp only [decide_eq_true_eq, decide_eq_false_iff_not, Bool.not_eq_true', Bool.not_eq_false', Bool.not_eq_eq_eq_not, Bool.not_true, Bool.not_false, Int.not_lt, Int.not_le] at hb)
  have hse : s.size = 0 := by rw [hb]; rfl
  refine GL_pass (nw_off rfl rfl rfl rfl rfl) rfl ?_
  refine GL_pass (nw_off rfl rfl rfl rfl rfl) rfl ?_
  refine GL_pass (nw_off rfl rfl rfl rfl rfl) rfl ?_
  refine GL_rd (v := .bool _) (wn_none rfl) rfl (rd_pickT rfl rfl rfl) ?_
  refine GL_nil ?_
  refine GW_true rfl ?_
  refine GW_seq ?_
  refine GW_region ?_
  refine GL_rd (v := .int _ _) (wn_none rfl) rfl (rd_assign rfl rfl) ?_
  refine GL_nil ?_
  refine GW_ret ?_
  exact ⟨_, res1 Try.results65 (rv_tmp (v := .int _ _) rfl rfl), by rw [nameC_size (by omega)], hp⟩
 ·intro hb; (try simp only [decide_eq_true_eq, decide_eq_false_iff_not, Bool.not_eq_true', Bool.not_eq_false', Bool.not_eq_eq_eq_not, Bool.not_true, Bool.not_false, Int.not_lt, Int.not_le] at hb)
  have hsn : ¬ s.size = 0 := fun e => hb (bytes_empty e)
  refine GL_rd (v := .string _) (wn_on rfl rfl rfl rfl) rfl (rd_move rfl rfl) ?_
  refine GL_rd (wn_on rfl rfl rfl rfl) rfl (rd_lenS rfl rfl Try.underlying9) ?_
  refine GL_rd (wn_on rfl rfl rfl rfl) rfl (rd_bin rfl rfl rfl bo_gtr) ?_
  refine GL_rd (v := .bool _) (wn_none rfl) rfl (rd_pickF rfl rfl rfl) ?_
  refine GL_nil ?_
  refine GW_cond rfl (fun hb2 => ?_) (fun hb2 => ?_)
  ·(try simp only [decide_eq_true_eq, decide_eq_false_iff_not, Bool.not_eq_true', Bool.not_eq_false', Bool.not_eq_eq_eq_not, Bool.not_true, Bool.not_false, Int.not_lt, Int.not_le] at hb2)
   refine GW_seq ?_
   refine GW_region ?_
   refine GL_rd (v := .int _ _) (wn_none rfl) rfl (rd_assign rfl rfl) ?_
   refine GL_nil ?_
   refine GW_ret ?_
   exact ⟨_, res1 Try.results65 (rv_tmp (v := .int _ _) rfl rfl), by rw [nameC_size (by omega)], hp⟩
  ·(try simp only [decide_eq_true_eq, decide_eq_false_iff_not, Bool.not_eq_true', Bool.not_eq_false', Bool.not_eq_eq_eq_not, Bool.not_true, Bool.not_false, Int.not_lt, Int.not_le] at hb2)
   refine GW_skip ?_
   refine GW_seq ?_
   refine GW_seq ?_
   refine GW_region ?_
   refine GL_rd (v := .string _) (wn_none rfl) rfl (rd_move rfl rfl) ?_
   refine GL_rd (wn_none rfl) rfl (rd_lenS rfl rfl Try.underlying9) ?_
   refine GL_rd (v := .int _ _) (wn_none rfl) rfl (rd_move rfl rfl) ?_
   refine GL_nil ?_
   refine GW_block ?_
   refine GW_loop ?_
   refine Lp_ind (α := Nat) (fun a_0 f_0 w' => match a_0 with | i => ∃ fz, f_0 = (upd (upd (upd fz 0 (.string s)) 13 (.int .i64 (s.size : Int))) 14 (.int .i64 (i : Int))) ∧ Hp w0 [] w' [] ∧ (i ≤ s.size) ∧ (∀ j, j < i → (hjl : j < s.size) → nmB s[j] = true)) (fun a_0 => match a_0 with | i => s.size - i) ?_ 0 _ _ ?_
   ·rintro i f wz ⟨fz, rfl, hp, hi0, hall⟩ ihL0
    refine Lp_round ?_
    refine GW_seq ?_
    refine GW_region ?_
    refine GL_rd (wn_none rfl) rfl (rd_bin rfl rfl rfl bo_lss) ?_
    refine GL_nil ?_
    refine GW_seq ?_
    refine GW_cond rfl (fun hb3 => ?_) (fun hb3 => ?_)
    ·(try simp only [decide_eq_true_eq, decide_eq_false_iff_not, Bool.not_eq_true', Bool.not_eq_false', Bool.not_eq_eq_eq_not, Bool.not_true, Bool.not_false, Int.not_lt, Int.not_le] at hb3)
     refine GW_skip ?_
     refine GW_seq ?_
     refine GW_block ?_
     refine GW_seq ?_
     refine GW_region ?_
     refine GL_rd (v := .int _ _) (wn_none rfl) rfl (rd_move rfl rfl) ?_
     refine GL_rd (v := .int _ _) (wn_none rfl) rfl (rd_assign rfl rfl) ?_
     refine GL_nil ?_
     refine GW_seq ?_
     refine GW_region ?_
     refine GL_rd (v := .string _) (wn_none rfl) rfl (rd_move rfl rfl) ?_
     refine GL_rd (v := .int _ _) (wn_none rfl) rfl (rd_move rfl rfl) ?_
     refine GL_rd (wn_none rfl) rfl (rd_indexStr (j := i) rfl rfl rfl Try.underlying9 rfl (by omega)) ?_
     refine GL_rd (v := .int _ _) (wn_none rfl) rfl (rd_assign rfl rfl) ?_
     refine GL_nil ?_
     refine GW_seq ?_
     refine GW_region ?_
     refine GL_rd (v := .int _ _) (wn_none rfl) rfl (rd_move rfl rfl) ?_
     refine GL_rd (wn_none rfl) rfl (rd_bin rfl rfl rfl bo_lss) ?_
     refine GL_rd (v := .bool _) (wn_none rfl) rfl (rd_move rfl rfl) ?_
     refine GL_split (t := 22) (b := _) rfl ?_ ?_
     ·intro hb4; (try simp only [decide_eq_true_eq, decide_eq_false_iff_not, Bool.not_eq_true', Bool.not_eq_false', Bool.not_eq_eq_eq_not, Bool.not_true, Bool.not_false, Int.not_lt, Int.not_le] at hb4)
      refine GL_pass (nw_off rfl rfl rfl rfl rfl) rfl ?_
      refine GL_pass (nw_off rfl rfl rfl rfl rfl) rfl ?_
      refine GL_rd (v := .bool _) (wn_none rfl) rfl (rd_pickT rfl rfl rfl) ?_
      refine GL_rd (v := .bool _) (wn_none rfl) rfl (rd_move rfl rfl) ?_
      refine GL_rd (v := .int _ _) (wn_on rfl rfl rfl rfl) rfl (rd_move rfl rfl) ?_
      refine GL_rd (wn_on rfl rfl rfl rfl) rfl (rd_bin rfl rfl rfl bo_lss) ?_
      refine GL_rd (v := .bool _) (wn_on rfl rfl rfl rfl) rfl (rd_move rfl rfl) ?_
      refine GL_split (t := 29) (b := _) rfl ?_ ?_
      ·intro hb5; (try simp only [decide_eq_true_eq, decide_eq_false_iff_not, Bool.not_eq_true', Bool.not_eq_false', Bool.not_eq_eq_eq_not, Bool.not_true, Bool.not_false, Int.not_lt, Int.not_le] at hb5)
       refine GL_pass (nw_off rfl rfl rfl rfl rfl) rfl ?_
       refine GL_pass (nw_off rfl rfl rfl rfl rfl) rfl ?_
       refine GL_rd (v := .bool _) (wn_on rfl rfl rfl rfl) rfl (rd_pickT rfl rfl rfl) ?_
       refine GL_rd (v := .bool _) (wn_none rfl) rfl (rd_pickT rfl rfl rfl) ?_
       refine GL_rd (v := .bool _) (wn_none rfl) rfl (rd_move rfl rfl) ?_
       refine GL_rd (v := .int _ _) (wn_on rfl rfl rfl rfl) rfl (rd_move rfl rfl) ?_
       refine GL_rd (wn_on rfl rfl rfl rfl) rfl (rd_bin rfl rfl rfl bo_neq) ?_
       refine GL_rd (v := .bool _) (wn_none rfl) rfl (rd_pickT rfl rfl rfl) ?_
       refine GL_nil ?_
       refine GW_cond rfl (fun hb6 => ?_) (fun hb6 => ?_)
       ·(try simp only [decide_eq_true_eq, decide_eq_false_iff_not, Bool.not_eq_true', Bool.not_eq_false', Bool.not_eq_eq_eq_not, Bool.not_true, Bool.not_false, Int.not_lt, Int.not_le] at hb6)
        refine GW_seq ?_
        refine GW_region ?_
        refine GL_rd (v := .int _ _) (wn_none rfl) rfl (rd_assign rfl rfl) ?_
        refine GL_nil ?_
        refine GW_ret ?_
        have hbd : nmB s[i] = false := by simp only [nmB, decide_eq_false_iff_not]; omega
        exact ⟨_, res1 Try.results65 (rv_tmp (v := .int _ _) rfl rfl), by rw [nameC_bad (by omega) hbd], hp⟩
       ·(try simp only [decide_eq_true_eq, decide_eq_false_iff_not, Bool.not_eq_true', Bool.not_eq_false', Bool.not_eq_eq_eq_not, Bool.not_true, Bool.not_false, Int.not_lt, Int.not_le] at hb6)
        refine GW_skip ?_
        refine GW_region ?_
        refine GL_rd (wn_none rfl) rfl (rd_bin rfl rfl rfl (bo_add64 (by omega))) ?_
        refine GL_rd (v := .int _ _) (wn_none rfl) rfl (rd_move rfl rfl) ?_
        refine GL_nil ?_
        have hgd : nmB s[i] = true := by simp only [nmB, decide_eq_true_eq]; omega
        exact ihL0 (i + 1) _ _ (by simp only []; omega) ⟨_, slots3 rfl rfl rfl, hp, by omega, fun j hj hjl => by by_cases e : j = i; subst e; exact hgd; exact hall j (by omega) hjl⟩
      ·intro hb5; (try simp only [decide_eq_true_eq, decide_eq_false_iff_not, Bool.not_eq_true', Bool.not_eq_false', Bool.not_eq_eq_eq_not, Bool.not_true, Bool.not_false, Int.not_lt, Int.not_le] at hb5)
       refine GL_rd (v := .int _ _) (wn_on rfl rfl rfl rfl) rfl (rd_move rfl rfl) ?_
       refine GL_rd (wn_on rfl rfl rfl rfl) rfl (rd_bin rfl rfl rfl bo_gtr) ?_
       refine GL_rd (v := .bool _) (wn_on rfl rfl rfl rfl) rfl (rd_pickF rfl rfl rfl) ?_
       refine GL_rd (v := .bool _) (wn_none rfl) rfl (rd_pickT rfl rfl rfl) ?_
       refine GL_rd (v := .bool _) (wn_none rfl) rfl (rd_move rfl rfl) ?_
       refine GL_split (t := 34) (b := _) rfl ?_ ?_
       ·intro hb7; (try simp only [decide_eq_true_eq, decide_eq_false_iff_not, Bool.not_eq_true', Bool.not_eq_false', Bool.not_eq_eq_eq_not, Bool.not_true, Bool.not_false, Int.not_lt, Int.not_le] at hb7)
        refine GL_rd (v := .int _ _) (wn_on rfl rfl rfl rfl) rfl (rd_move rfl rfl) ?_
        refine GL_rd (wn_on rfl rfl rfl rfl) rfl (rd_bin rfl rfl rfl bo_neq) ?_
        refine GL_rd (v := .bool _) (wn_none rfl) rfl (rd_pickT rfl rfl rfl) ?_
        refine GL_nil ?_
        refine GW_cond rfl (fun hb8 => ?_) (fun hb8 => ?_)
        ·(try simp only [decide_eq_true_eq, decide_eq_false_iff_not, Bool.not_eq_true', Bool.not_eq_false', Bool.not_eq_eq_eq_not, Bool.not_true, Bool.not_false, Int.not_lt, Int.not_le] at hb8)
         refine GW_seq ?_
         refine GW_region ?_
         refine GL_rd (v := .int _ _) (wn_none rfl) rfl (rd_assign rfl rfl) ?_
         refine GL_nil ?_
         refine GW_ret ?_
         have hbd : nmB s[i] = false := by simp only [nmB, decide_eq_false_iff_not]; omega
         exact ⟨_, res1 Try.results65 (rv_tmp (v := .int _ _) rfl rfl), by rw [nameC_bad (by omega) hbd], hp⟩
        ·(try simp only [decide_eq_true_eq, decide_eq_false_iff_not, Bool.not_eq_true', Bool.not_eq_false', Bool.not_eq_eq_eq_not, Bool.not_true, Bool.not_false, Int.not_lt, Int.not_le] at hb8)
         refine GW_skip ?_
         refine GW_region ?_
         refine GL_rd (wn_none rfl) rfl (rd_bin rfl rfl rfl (bo_add64 (by omega))) ?_
         refine GL_rd (v := .int _ _) (wn_none rfl) rfl (rd_move rfl rfl) ?_
         refine GL_nil ?_
         have hgd : nmB s[i] = true := by simp only [nmB, decide_eq_true_eq]; omega
         exact ihL0 (i + 1) _ _ (by simp only []; omega) ⟨_, slots3 rfl rfl rfl, hp, by omega, fun j hj hjl => by by_cases e : j = i; subst e; exact hgd; exact hall j (by omega) hjl⟩
       ·intro hb7; (try simp only [decide_eq_true_eq, decide_eq_false_iff_not, Bool.not_eq_true', Bool.not_eq_false', Bool.not_eq_eq_eq_not, Bool.not_true, Bool.not_false, Int.not_lt, Int.not_le] at hb7)
        refine GL_pass (nw_off rfl rfl rfl rfl rfl) rfl ?_
        refine GL_pass (nw_off rfl rfl rfl rfl rfl) rfl ?_
        refine GL_rd (v := .bool _) (wn_none rfl) rfl (rd_pickF rfl rfl rfl) ?_
        refine GL_nil ?_
        refine GW_false rfl ?_
        refine GW_skip ?_
        refine GW_region ?_
        refine GL_rd (wn_none rfl) rfl (rd_bin rfl rfl rfl (bo_add64 (by omega))) ?_
        refine GL_rd (v := .int _ _) (wn_none rfl) rfl (rd_move rfl rfl) ?_
        refine GL_nil ?_
        have hgd : nmB s[i] = true := by simp only [nmB, decide_eq_true_eq]; omega
        exact ihL0 (i + 1) _ _ (by simp only []; omega) ⟨_, slots3 rfl rfl rfl, hp, by omega, fun j hj hjl => by by_cases e : j = i; subst e; exact hgd; exact hall j (by omega) hjl⟩
     ·intro hb4; (try simp only [decide_eq_true_eq, decide_eq_false_iff_not, Bool.not_eq_true', Bool.not_eq_false', Bool.not_eq_eq_eq_not, Bool.not_true, Bool.not_false, Int.not_lt, Int.not_le] at hb4)
      refine GL_rd (v := .int _ _) (wn_on rfl rfl rfl rfl) rfl (rd_move rfl rfl) ?_
      refine GL_rd (wn_on rfl rfl rfl rfl) rfl (rd_bin rfl rfl rfl bo_gtr) ?_
      refine GL_rd (v := .bool _) (wn_none rfl) rfl (rd_pickF rfl rfl rfl) ?_
      refine GL_rd (v := .bool _) (wn_none rfl) rfl (rd_move rfl rfl) ?_
      refine GL_split (t := 26) (b := _) rfl ?_ ?_
      ·intro hb9; (try simp only [decide_eq_true_eq, decide_eq_false_iff_not, Bool.not_eq_true', Bool.not_eq_false', Bool.not_eq_eq_eq_not, Bool.not_true, Bool.not_false, Int.not_lt, Int.not_le] at hb9)
       refine GL_rd (v := .int _ _) (wn_on rfl rfl rfl rfl) rfl (rd_move rfl rfl) ?_
       refine GL_rd (wn_on rfl rfl rfl rfl) rfl (rd_bin rfl rfl rfl bo_lss) ?_
       refine GL_rd (v := .bool _) (wn_on rfl rfl rfl rfl) rfl (rd_move rfl rfl) ?_
       refine GL_split (t := 29) (b := _) rfl ?_ ?_
       ·intro hb10; (try simp only [decide_eq_true_eq, decide_eq_false_iff_not, Bool.not_eq_true', Bool.not_eq_false', Bool.not_eq_eq_eq_not, Bool.not_true, Bool.not_false, Int.not_lt, Int.not_le] at hb10)
        refine GL_pass (nw_off rfl rfl rfl rfl rfl) rfl ?_
        refine GL_pass (nw_off rfl rfl rfl rfl rfl) rfl ?_
        refine GL_rd (v := .bool _) (wn_on rfl rfl rfl rfl) rfl (rd_pickT rfl rfl rfl) ?_
        refine GL_rd (v := .bool _) (wn_none rfl) rfl (rd_pickT rfl rfl rfl) ?_
        refine GL_rd (v := .bool _) (wn_none rfl) rfl (rd_move rfl rfl) ?_
        refine GL_rd (v := .int _ _) (wn_on rfl rfl rfl rfl) rfl (rd_move rfl rfl) ?_
        refine GL_rd (wn_on rfl rfl rfl rfl) rfl (rd_bin rfl rfl rfl bo_neq) ?_
        refine GL_rd (v := .bool _) (wn_none rfl) rfl (rd_pickT rfl rfl rfl) ?_
        refine GL_nil ?_
        refine GW_cond rfl (fun hb11 => ?_) (fun hb11 => ?_)
        ·(try simp only [decide_eq_true_eq, decide_eq_false_iff_not, Bool.not_eq_true', Bool.not_eq_false', Bool.not_eq_eq_eq_not, Bool.not_true, Bool.not_false, Int.not_lt, Int.not_le] at hb11)
         refine GW_seq ?_
         refine GW_region ?_
         refine GL_rd (v := .int _ _) (wn_none rfl) rfl (rd_assign rfl rfl) ?_
         refine GL_nil ?_
         refine GW_ret ?_
         have hbd : nmB s[i] = false := by simp only [nmB, decide_eq_false_iff_not]; omega
         exact ⟨_, res1 Try.results65 (rv_tmp (v := .int _ _) rfl rfl), by rw [nameC_bad (by omega) hbd], hp⟩
        ·(try simp only [decide_eq_true_eq, decide_eq_false_iff_not, Bool.not_eq_true', Bool.not_eq_false', Bool.not_eq_eq_eq_not, Bool.not_true, Bool.not_false, Int.not_lt, Int.not_le] at hb11)
         refine GW_skip ?_
         refine GW_region ?_
         refine GL_rd (wn_none rfl) rfl (rd_bin rfl rfl rfl (bo_add64 (by omega))) ?_
         refine GL_rd (v := .int _ _) (wn_none rfl) rfl (rd_move rfl rfl) ?_
         refine GL_nil ?_
         have hgd : nmB s[i] = true := by simp only [nmB, decide_eq_true_eq]; omega
         exact ihL0 (i + 1) _ _ (by simp only []; omega) ⟨_, slots3 rfl rfl rfl, hp, by omega, fun j hj hjl => by by_cases e : j = i; subst e; exact hgd; exact hall j (by omega) hjl⟩
       ·intro hb10; (try simp only [decide_eq_true_eq, decide_eq_false_iff_not, Bool.not_eq_true', Bool.not_eq_false', Bool.not_eq_eq_eq_not, Bool.not_true, Bool.not_false, Int.not_lt, Int.not_le] at hb10)
        refine GL_rd (v := .int _ _) (wn_on rfl rfl rfl rfl) rfl (rd_move rfl rfl) ?_
        refine GL_rd (wn_on rfl rfl rfl rfl) rfl (rd_bin rfl rfl rfl bo_gtr) ?_
        refine GL_rd (v := .bool _) (wn_on rfl rfl rfl rfl) rfl (rd_pickF rfl rfl rfl) ?_
        refine GL_rd (v := .bool _) (wn_none rfl) rfl (rd_pickT rfl rfl rfl) ?_
        refine GL_rd (v := .bool _) (wn_none rfl) rfl (rd_move rfl rfl) ?_
        refine GL_split (t := 34) (b := _) rfl ?_ ?_
        ·intro hb12; (try simp only [decide_eq_true_eq, decide_eq_false_iff_not, Bool.not_eq_true', Bool.not_eq_false', Bool.not_eq_eq_eq_not, Bool.not_true, Bool.not_false, Int.not_lt, Int.not_le] at hb12)
         refine GL_rd (v := .int _ _) (wn_on rfl rfl rfl rfl) rfl (rd_move rfl rfl) ?_
         refine GL_rd (wn_on rfl rfl rfl rfl) rfl (rd_bin rfl rfl rfl bo_neq) ?_
         refine GL_rd (v := .bool _) (wn_none rfl) rfl (rd_pickT rfl rfl rfl) ?_
         refine GL_nil ?_
         refine GW_cond rfl (fun hb13 => ?_) (fun hb13 => ?_)
         ·(try simp only [decide_eq_true_eq, decide_eq_false_iff_not, Bool.not_eq_true', Bool.not_eq_false', Bool.not_eq_eq_eq_not, Bool.not_true, Bool.not_false, Int.not_lt, Int.not_le] at hb13)
          refine GW_seq ?_
          refine GW_region ?_
          refine GL_rd (v := .int _ _) (wn_none rfl) rfl (rd_assign rfl rfl) ?_
          refine GL_nil ?_
          refine GW_ret ?_
          have hbd : nmB s[i] = false := by simp only [nmB, decide_eq_false_iff_not]; omega
          exact ⟨_, res1 Try.results65 (rv_tmp (v := .int _ _) rfl rfl), by rw [nameC_bad (by omega) hbd], hp⟩
         ·(try simp only [decide_eq_true_eq, decide_eq_false_iff_not, Bool.not_eq_true', Bool.not_eq_false', Bool.not_eq_eq_eq_not, Bool.not_true, Bool.not_false, Int.not_lt, Int.not_le] at hb13)
          refine GW_skip ?_
          refine GW_region ?_
          refine GL_rd (wn_none rfl) rfl (rd_bin rfl rfl rfl (bo_add64 (by omega))) ?_
          refine GL_rd (v := .int _ _) (wn_none rfl) rfl (rd_move rfl rfl) ?_
          refine GL_nil ?_
          have hgd : nmB s[i] = true := by simp only [nmB, decide_eq_true_eq]; omega
          exact ihL0 (i + 1) _ _ (by simp only []; omega) ⟨_, slots3 rfl rfl rfl, hp, by omega, fun j hj hjl => by by_cases e : j = i; subst e; exact hgd; exact hall j (by omega) hjl⟩
        ·intro hb12; (try simp only [decide_eq_true_eq, decide_eq_false_iff_not, Bool.not_eq_true', Bool.not_eq_false', Bool.not_eq_eq_eq_not, Bool.not_true, Bool.not_false, Int.not_lt, Int.not_le] at hb12)
         refine GL_pass (nw_off rfl rfl rfl rfl rfl) rfl ?_
         refine GL_pass (nw_off rfl rfl rfl rfl rfl) rfl ?_
         refine GL_rd (v := .bool _) (wn_none rfl) rfl (rd_pickF rfl rfl rfl) ?_
         refine GL_nil ?_
         refine GW_false rfl ?_
         refine GW_skip ?_
         refine GW_region ?_
         refine GL_rd (wn_none rfl) rfl (rd_bin rfl rfl rfl (bo_add64 (by omega))) ?_
         refine GL_rd (v := .int _ _) (wn_none rfl) rfl (rd_move rfl rfl) ?_
         refine GL_nil ?_
         have hgd : nmB s[i] = true := by simp only [nmB, decide_eq_true_eq]; omega
         exact ihL0 (i + 1) _ _ (by simp only []; omega) ⟨_, slots3 rfl rfl rfl, hp, by omega, fun j hj hjl => by by_cases e : j = i; subst e; exact hgd; exact hall j (by omega) hjl⟩
      ·intro hb9; (try simp only [decide_eq_true_eq, decide_eq_false_iff_not, Bool.not_eq_true', Bool.not_eq_false', Bool.not_eq_eq_eq_not, Bool.not_true, Bool.not_false, Int.not_lt, Int.not_le] at hb9)
       refine GL_pass (nw_off rfl rfl rfl rfl rfl) rfl ?_
       refine GL_pass (nw_off rfl rfl rfl rfl rfl) rfl ?_
       refine GL_pass (nw_off rfl rfl rfl rfl rfl) rfl ?_
       refine GL_pass (nw_undef rfl rfl rfl rfl) rfl ?_
       refine GL_pass (nw_undef rfl rfl rfl rfl) rfl ?_
       refine GL_pass (nw_off rfl rfl rfl rfl rfl) rfl ?_
       refine GL_rd (v := .bool _) (wn_none rfl) rfl (rd_pickF rfl rfl rfl) ?_
       refine GL_rd (v := .bool _) (wn_none rfl) rfl (rd_move rfl rfl) ?_
       refine GL_pass (nw_off rfl rfl rfl rfl rfl) rfl ?_
       refine GL_pass (nw_off rfl rfl rfl rfl rfl) rfl ?_
       refine GL_rd (v := .bool _) (wn_none rfl) rfl (rd_pickF rfl rfl rfl) ?_
       refine GL_nil ?_
       refine GW_false rfl ?_
       refine GW_skip ?_
       refine GW_region ?_
       refine GL_rd (wn_none rfl) rfl (rd_bin rfl rfl rfl (bo_add64 (by omega))) ?_
       refine GL_rd (v := .int _ _) (wn_none rfl) rfl (rd_move rfl rfl) ?_
       refine GL_nil ?_
       have hgd : nmB s[i] = true := by simp only [nmB, decide_eq_true_eq]; omega
       exact ihL0 (i + 1) _ _ (by simp only []; omega) ⟨_, slots3 rfl rfl rfl, hp, by omega, fun j hj hjl => by by_cases e : j = i; subst e; exact hgd; exact hall j (by omega) hjl⟩
    ·(try simp only [decide_eq_true_eq, decide_eq_false_iff_not, Bool.not_eq_true', Bool.not_eq_false', Bool.not_eq_eq_eq_not, Bool.not_true, Bool.not_false, Int.not_lt, Int.not_le] at hb3)
     refine GW_exit ?_
     refine GW_seq ?_
     refine GW_region ?_
     refine GL_rd (v := .int _ _) (wn_none rfl) rfl (rd_assign rfl rfl) ?_
     refine GL_nil ?_
     refine GW_ret ?_
     exact ⟨_, res1 Try.results65 (rv_tmp (v := .int _ _) rfl rfl), by rw [nameC_good (by omega) (fun j hj => hall j (by omega) hj)], hp⟩
   ·refine ⟨_, slots3 rfl rfl rfl, hp, Nat.zero_le _, fun j hj => absurd hj (Nat.not_lt_zero _)⟩

theorem ref_clName (s : ByteArray) (w0 : World) (hs : s.size ≤ 140737488351232) : Does Try.prog 66 #[.string s] w0 fun v w' => v = .int .i64 (nameC s) ∧ Hp w0 [] w' [] := by
 refine does_of (l := [.string s]) Try.func66 (by kernel_rfl) rfl Try.ntmps66 rfl rfl ?_
 have hp := Hp.refl w0 []
 refine GW_seq ?_
 refine GW_region ?_
 refine GL_rd (v := .int _ _) (wn_none rfl) rfl (rd_assign rfl rfl) ?_
 refine GL_nil ?_
 refine GW_seq ?_
 refine GW_seq ?_
 refine GW_region ?_
 refine GL_rd (v := .string _) (wn_none rfl) rfl (rd_move rfl rfl) ?_
 refine GL_rd (wn_none rfl) rfl (rd_lenS rfl rfl Try.underlying9) ?_
 refine GL_rd (wn_none rfl) rfl (rd_bin rfl rfl rfl bo_lss) ?_
 refine GL_rd (v := .bool _) (wn_none rfl) rfl (rd_move rfl rfl) ?_
 refine GL_split (t := 8) (b := _) rfl ?_ ?_
 ·intro hb; (try simp only [decide_eq_true_eq, decide_eq_false_iff_not, Bool.not_eq_true', Bool.not_eq_false', Bool.not_eq_eq_eq_not, Bool.not_true, Bool.not_false, Int.not_lt, Int.not_le] at hb)
  refine GL_pass (nw_off rfl rfl rfl rfl rfl) rfl ?_
  refine GL_pass (nw_off rfl rfl rfl rfl rfl) rfl ?_
  refine GL_pass (nw_off rfl rfl rfl rfl rfl) rfl ?_
  refine GL_rd (v := .bool _) (wn_none rfl) rfl (rd_pickT rfl rfl rfl) ?_
  refine GL_nil ?_
  refine GW_true rfl ?_
  refine GW_seq ?_
  refine GW_region ?_
  refine GL_rd (v := .int _ _) (wn_none rfl) rfl (rd_assign rfl rfl) ?_
  refine GL_nil ?_
  refine GW_ret ?_
  exact ⟨_, res1 Try.results66 (rv_tmp (v := .int _ _) rfl rfl), by rw [nameC_size (by omega)], hp⟩
 ·intro hb; (try simp only [decide_eq_true_eq, decide_eq_false_iff_not, Bool.not_eq_true', Bool.not_eq_false', Bool.not_eq_eq_eq_not, Bool.not_true, Bool.not_false, Int.not_lt, Int.not_le] at hb)
  refine GL_rd (v := .string _) (wn_on rfl rfl rfl rfl) rfl (rd_move rfl rfl) ?_
  refine GL_rd (wn_on rfl rfl rfl rfl) rfl (rd_lenS rfl rfl Try.underlying9) ?_
  refine GL_rd (wn_on rfl rfl rfl rfl) rfl (rd_bin rfl rfl rfl bo_gtr) ?_
  refine GL_rd (v := .bool _) (wn_none rfl) rfl (rd_pickF rfl rfl rfl) ?_
  refine GL_nil ?_
  refine GW_cond rfl (fun hb2 => ?_) (fun hb2 => ?_)
  ·(try simp only [decide_eq_true_eq, decide_eq_false_iff_not, Bool.not_eq_true', Bool.not_eq_false', Bool.not_eq_eq_eq_not, Bool.not_true, Bool.not_false, Int.not_lt, Int.not_le] at hb2)
   refine GW_seq ?_
   refine GW_region ?_
   refine GL_rd (v := .int _ _) (wn_none rfl) rfl (rd_assign rfl rfl) ?_
   refine GL_nil ?_
   refine GW_ret ?_
   exact ⟨_, res1 Try.results66 (rv_tmp (v := .int _ _) rfl rfl), by rw [nameC_size (by omega)], hp⟩
  ·(try simp only [decide_eq_true_eq, decide_eq_false_iff_not, Bool.not_eq_true', Bool.not_eq_false', Bool.not_eq_eq_eq_not, Bool.not_true, Bool.not_false, Int.not_lt, Int.not_le] at hb2)
   refine GW_skip ?_
   refine GW_seq ?_
   refine GW_seq ?_
   refine GW_region ?_
   refine GL_rd (v := .int _ _) (wn_none rfl) rfl (rd_assign rfl rfl) ?_
   refine GL_nil ?_
   refine GW_block ?_
   refine GW_loop ?_
   refine Lp_ind (α := Nat) (fun a_0 f_0 w' => match a_0 with | i => ∃ fz, f_0 = (upd (upd fz 0 (.string s)) 3 (.int .i64 (i : Int))) ∧ Hp w0 [] w' [] ∧ (i ≤ s.size) ∧ (∀ j, j < i → (hjl : j < s.size) → nmB s[j] = true)) (fun a_0 => match a_0 with | i => s.size - i) ?_ 0 _ _ ?_
   ·rintro i f wz ⟨fz, rfl, hp, hi0, hall⟩ ihL0
    refine Lp_round ?_
    refine GW_seq ?_
    refine GW_seq ?_
    refine GW_region ?_
    refine GL_rd (v := .int _ _) (wn_none rfl) rfl (rd_move rfl rfl) ?_
    refine GL_rd (v := .string _) (wn_none rfl) rfl (rd_move rfl rfl) ?_
    refine GL_rd (wn_none rfl) rfl (rd_lenS rfl rfl Try.underlying9) ?_
    refine GL_rd (wn_none rfl) rfl (rd_bin rfl rfl rfl bo_lss) ?_
    refine GL_nil ?_
    refine GW_cond rfl (fun hb3 => ?_) (fun hb3 => ?_)
    ·(try simp only [decide_eq_true_eq, decide_eq_false_iff_not, Bool.not_eq_true', Bool.not_eq_false', Bool.not_eq_eq_eq_not, Bool.not_true, Bool.not_false, Int.not_lt, Int.not_le] at hb3)
     refine GW_skip ?_
     refine GW_seq ?_
     refine GW_block ?_
     refine GW_seq ?_
     refine GW_region ?_
     refine GL_rd (v := .string _) (wn_none rfl) rfl (rd_move rfl rfl) ?_
     refine GL_rd (v := .int _ _) (wn_none rfl) rfl (rd_move rfl rfl) ?_
     refine GL_rd (wn_none rfl) rfl (rd_indexStr (j := i) rfl rfl rfl Try.underlying9 rfl (by omega)) ?_
     refine GL_rd (v := .int _ _) (wn_none rfl) rfl (rd_assign rfl rfl) ?_
     refine GL_nil ?_
     refine GW_seq ?_
     refine GW_region ?_
     refine GL_rd (v := .int _ _) (wn_none rfl) rfl (rd_move rfl rfl) ?_
     refine GL_rd (wn_none rfl) rfl (rd_bin rfl rfl rfl bo_geq) ?_
     refine GL_rd (v := .bool _) (wn_none rfl) rfl (rd_move rfl rfl) ?_
     refine GL_split (t := 24) (b := _) rfl ?_ ?_
     ·intro hb4; (try simp only [decide_eq_true_eq, decide_eq_false_iff_not, Bool.not_eq_true', Bool.not_eq_false', Bool.not_eq_eq_eq_not, Bool.not_true, Bool.not_false, Int.not_lt, Int.not_le] at hb4)
      refine GL_rd (v := .int _ _) (wn_on rfl rfl rfl rfl) rfl (rd_move rfl rfl) ?_
      refine GL_rd (wn_on rfl rfl rfl rfl) rfl (rd_bin rfl rfl rfl bo_leq) ?_
      refine GL_rd (v := .bool _) (wn_none rfl) rfl (rd_pickT rfl rfl rfl) ?_
      refine GL_rd (v := .bool _) (wn_none rfl) rfl (rd_move rfl rfl) ?_
      refine GL_split (t := 28) (b := _) rfl ?_ ?_
      ·intro hb5; (try simp only [decide_eq_true_eq, decide_eq_false_iff_not, Bool.not_eq_true', Bool.not_eq_false', Bool.not_eq_eq_eq_not, Bool.not_true, Bool.not_false, Int.not_lt, Int.not_le] at hb5)
       refine GL_pass (nw_off rfl rfl rfl rfl rfl) rfl ?_
       refine GL_pass (nw_off rfl rfl rfl rfl rfl) rfl ?_
       refine GL_pass (nw_off rfl rfl rfl rfl rfl) rfl ?_
       refine GL_pass (nw_undef rfl rfl rfl rfl) rfl ?_
       refine GL_pass (nw_undef rfl rfl rfl rfl) rfl ?_
       refine GL_pass (nw_off rfl rfl rfl rfl rfl) rfl ?_
       refine GL_rd (v := .bool _) (wn_none rfl) rfl (rd_pickT rfl rfl rfl) ?_
       refine GL_rd (v := .bool _) (wn_none rfl) rfl (rd_move rfl rfl) ?_
       refine GL_pass (nw_off rfl rfl rfl rfl rfl) rfl ?_
       refine GL_pass (nw_off rfl rfl rfl rfl rfl) rfl ?_
       refine GL_rd (v := .bool _) (wn_none rfl) rfl (rd_pickT rfl rfl rfl) ?_
       refine GL_rd (wn_none rfl) rfl (rd_not rfl rfl) ?_
       refine GL_nil ?_
       refine GW_false rfl ?_
       refine GW_skip ?_
       refine GW_region ?_
       refine GL_rd (v := .int _ _) (wn_none rfl) rfl (rd_move rfl rfl) ?_
       refine GL_rd (wn_none rfl) rfl (rd_bin rfl rfl rfl (bo_add64 (by omega))) ?_
       refine GL_rd (v := .int _ _) (wn_none rfl) rfl (rd_assign rfl rfl) ?_
       refine GL_nil ?_
       have hgd : nmB s[i] = true := by simp only [nmB, decide_eq_true_eq]; omega
       exact ihL0 (i + 1) _ _ (by simp only []; omega) ⟨_, slots2 rfl rfl, hp, by omega, fun j hj hjl => by by_cases e : j = i; subst e; exact hgd; exact hall j (by omega) hjl⟩
      ·intro hb5; (try simp only [decide_eq_true_eq, decide_eq_false_iff_not, Bool.not_eq_true', Bool.not_eq_false', Bool.not_eq_eq_eq_not, Bool.not_true, Bool.not_false, Int.not_lt, Int.not_le] at hb5)
       refine GL_rd (v := .int _ _) (wn_on rfl rfl rfl rfl) rfl (rd_move rfl rfl) ?_
       refine GL_rd (wn_on rfl rfl rfl rfl) rfl (rd_bin rfl rfl rfl bo_geq) ?_
       refine GL_rd (v := .bool _) (wn_on rfl rfl rfl rfl) rfl (rd_move rfl rfl) ?_
       refine GL_split (t := 31) (b := _) rfl ?_ ?_
       ·intro hb6; (try simp only [decide_eq_true_eq, decide_eq_false_iff_not, Bool.not_eq_true', Bool.not_eq_false', Bool.not_eq_eq_eq_not, Bool.not_true, Bool.not_false, Int.not_lt, Int.not_le] at hb6)
        refine GL_rd (v := .int _ _) (wn_on rfl rfl rfl rfl) rfl (rd_move rfl rfl) ?_
        refine GL_rd (wn_on rfl rfl rfl rfl) rfl (rd_bin rfl rfl rfl bo_leq) ?_
        refine GL_rd (v := .bool _) (wn_on rfl rfl rfl rfl) rfl (rd_pickT rfl rfl rfl) ?_
        refine GL_rd (v := .bool _) (wn_none rfl) rfl (rd_pickF rfl rfl rfl) ?_
        refine GL_rd (v := .bool _) (wn_none rfl) rfl (rd_move rfl rfl) ?_
        refine GL_split (t := 36) (b := _) rfl ?_ ?_
        ·intro hb7; (try simp only [decide_eq_true_eq, decide_eq_false_iff_not, Bool.not_eq_true', Bool.not_eq_false', Bool.not_eq_eq_eq_not, Bool.not_true, Bool.not_false, Int.not_lt, Int.not_le] at hb7)
         refine GL_pass (nw_off rfl rfl rfl rfl rfl) rfl ?_
         refine GL_pass (nw_off rfl rfl rfl rfl rfl) rfl ?_
         refine GL_rd (v := .bool _) (wn_none rfl) rfl (rd_pickT rfl rfl rfl) ?_
         refine GL_rd (wn_none rfl) rfl (rd_not rfl rfl) ?_
         refine GL_nil ?_
         refine GW_false rfl ?_
         refine GW_skip ?_
         refine GW_region ?_
         refine GL_rd (v := .int _ _) (wn_none rfl) rfl (rd_move rfl rfl) ?_
         refine GL_rd (wn_none rfl) rfl (rd_bin rfl rfl rfl (bo_add64 (by omega))) ?_
         refine GL_rd (v := .int _ _) (wn_none rfl) rfl (rd_assign rfl rfl) ?_
         refine GL_nil ?_
         have hgd : nmB s[i] = true := by simp only [nmB, decide_eq_true_eq]; omega
         exact ihL0 (i + 1) _ _ (by simp only []; omega) ⟨_, slots2 rfl rfl, hp, by omega, fun j hj hjl => by by_cases e : j = i; subst e; exact hgd; exact hall j (by omega) hjl⟩
        ·intro hb7; (try simp only [decide_eq_true_eq, decide_eq_false_iff_not, Bool.not_eq_true', Bool.not_eq_false', Bool.not_eq_eq_eq_not, Bool.not_true, Bool.not_false, Int.not_lt, Int.not_le] at hb7)
         refine GL_rd (v := .int _ _) (wn_on rfl rfl rfl rfl) rfl (rd_move rfl rfl) ?_
         refine GL_rd (wn_on rfl rfl rfl rfl) rfl (rd_bin rfl rfl rfl bo_eql) ?_
         refine GL_rd (v := .bool _) (wn_none rfl) rfl (rd_pickF rfl rfl rfl) ?_
         refine GL_rd (wn_none rfl) rfl (rd_not rfl rfl) ?_
         refine GL_nil ?_
         refine GW_cond rfl (fun hb8 => ?_) (fun hb8 => ?_)
         ·(try simp only [decide_eq_true_eq, decide_eq_false_iff_not, Bool.not_eq_true', Bool.not_eq_false', Bool.not_eq_eq_eq_not, Bool.not_true, Bool.not_false, Int.not_lt, Int.not_le] at hb8)
          refine GW_seq ?_
          refine GW_region ?_
          refine GL_rd (v := .int _ _) (wn_none rfl) rfl (rd_assign rfl rfl) ?_
          refine GL_nil ?_
          refine GW_ret ?_
          have hbd : nmB s[i] = false := by simp only [nmB, decide_eq_false_iff_not]; omega
          exact ⟨_, res1 Try.results66 (rv_tmp (v := .int _ _) rfl rfl), by rw [nameC_bad (by omega) hbd], hp⟩
         ·(try simp only [decide_eq_true_eq, decide_eq_false_iff_not, Bool.not_eq_true', Bool.not_eq_false', Bool.not_eq_eq_eq_not, Bool.not_true, Bool.not_false, Int.not_lt, Int.not_le] at hb8)
          refine GW_skip ?_
          refine GW_region ?_
          refine GL_rd (v := .int _ _) (wn_none rfl) rfl (rd_move rfl rfl) ?_
          refine GL_rd (wn_none rfl) rfl (rd_bin rfl rfl rfl (bo_add64 (by omega))) ?_
          refine GL_rd (v := .int _ _) (wn_none rfl) rfl (rd_assign rfl rfl) ?_
          refine GL_nil ?_
          have hgd : nmB s[i] = true := by simp only [nmB, decide_eq_true_eq]; omega
          exact ihL0 (i + 1) _ _ (by simp only []; omega) ⟨_, slots2 rfl rfl, hp, by omega, fun j hj hjl => by by_cases e : j = i; subst e; exact hgd; exact hall j (by omega) hjl⟩
       ·intro hb6; (try simp only [decide_eq_true_eq, decide_eq_false_iff_not, Bool.not_eq_true', Bool.not_eq_false', Bool.not_eq_eq_eq_not, Bool.not_true, Bool.not_false, Int.not_lt, Int.not_le] at hb6)
        refine GL_pass (nw_off rfl rfl rfl rfl rfl) rfl ?_
        refine GL_pass (nw_off rfl rfl rfl rfl rfl) rfl ?_
        refine GL_rd (v := .bool _) (wn_on rfl rfl rfl rfl) rfl (rd_pickF rfl rfl rfl) ?_
        refine GL_rd (v := .bool _) (wn_none rfl) rfl (rd_pickF rfl rfl rfl) ?_
        refine GL_rd (v := .bool _) (wn_none rfl) rfl (rd_move rfl rfl) ?_
        refine GL_rd (v := .int _ _) (wn_on rfl rfl rfl rfl) rfl (rd_move rfl rfl) ?_
        refine GL_rd (wn_on rfl rfl rfl rfl) rfl (rd_bin rfl rfl rfl bo_eql) ?_
        refine GL_rd (v := .bool _) (wn_none rfl) rfl (rd_pickF rfl rfl rfl) ?_
        refine GL_rd (wn_none rfl) rfl (rd_not rfl rfl) ?_
        refine GL_nil ?_
        refine GW_cond rfl (fun hb9 => ?_) (fun hb9 => ?_)
        ·(try simp only [decide_eq_true_eq, decide_eq_false_iff_not, Bool.not_eq_true', Bool.not_eq_false', Bool.not_eq_eq_eq_not, Bool.not_true, Bool.not_false, Int.not_lt, Int.not_le] at hb9)
         refine GW_seq ?_
         refine GW_region ?_
         refine GL_rd (v := .int _ _) (wn_none rfl) rfl (rd_assign rfl rfl) ?_
         refine GL_nil ?_
         refine GW_ret ?_
         have hbd : nmB s[i] = false := by simp only [nmB, decide_eq_false_iff_not]; omega
         exact ⟨_, res1 Try.results66 (rv_tmp (v := .int _ _) rfl rfl), by rw [nameC_bad (by omega) hbd], hp⟩
        ·(try simp only [decide_eq_true_eq, decide_eq_false_iff_not, Bool.not_eq_true', Bool.not_eq_false', Bool.not_eq_eq_eq_not, Bool.not_true, Bool.not_false, Int.not_lt, Int.not_le] at hb9)
         refine GW_skip ?_
         refine GW_region ?_
         refine GL_rd (v := .int _ _) (wn_none rfl) rfl (rd_move rfl rfl) ?_
         refine GL_rd (wn_none rfl) rfl (rd_bin rfl rfl rfl (bo_add64 (by omega))) ?_
         refine GL_rd (v := .int _ _) (wn_none rfl) rfl (rd_assign rfl rfl) ?_
         refine GL_nil ?_
         have hgd : nmB s[i] = true := by simp only [nmB, decide_eq_true_eq]; omega
         exact ihL0 (i + 1) _ _ (by simp only []; omega) ⟨_, slots2 rfl rfl, hp, by omega, fun j hj hjl => by by_cases e : j = i; subst e; exact hgd; exact hall j (by omega) hjl⟩
     ·intro hb4; (try simp only [decide_eq_true_eq, decide_eq_false_iff_not, Bool.not_eq_true', Bool.not_eq_false', Bool.not_eq_eq_eq_not, Bool.not_true, Bool.not_false, Int.not_lt, Int.not_le] at hb4)
      refine GL_pass (nw_off rfl rfl rfl rfl rfl) rfl ?_
      refine GL_pass (nw_off rfl rfl rfl rfl rfl) rfl ?_
      refine GL_rd (v := .bool _) (wn_none rfl) rfl (rd_pickF rfl rfl rfl) ?_
      refine GL_rd (v := .bool _) (wn_none rfl) rfl (rd_move rfl rfl) ?_
      refine GL_rd (v := .int _ _) (wn_on rfl rfl rfl rfl) rfl (rd_move rfl rfl) ?_
      refine GL_rd (wn_on rfl rfl rfl rfl) rfl (rd_bin rfl rfl rfl bo_geq) ?_
      refine GL_rd (v := .bool _) (wn_on rfl rfl rfl rfl) rfl (rd_move rfl rfl) ?_
      refine GL_split (t := 31) (b := _) rfl ?_ ?_
      ·intro hb10; (try simp only [decide_eq_true_eq, decide_eq_false_iff_not, Bool.not_eq_true', Bool.not_eq_false', Bool.not_eq_eq_eq_not, Bool.not_true, Bool.not_false, Int.not_lt, Int.not_le] at hb10)
       refine GL_rd (v := .int _ _) (wn_on rfl rfl rfl rfl) rfl (rd_move rfl rfl) ?_
       refine GL_rd (wn_on rfl rfl rfl rfl) rfl (rd_bin rfl rfl rfl bo_leq) ?_
       refine GL_rd (v := .bool _) (wn_on rfl rfl rfl rfl) rfl (rd_pickT rfl rfl rfl) ?_
       refine GL_rd (v := .bool _) (wn_none rfl) rfl (rd_pickF rfl rfl rfl) ?_
       refine GL_rd (v := .bool _) (wn_none rfl) rfl (rd_move rfl rfl) ?_
       refine GL_split (t := 36) (b := _) rfl ?_ ?_
       ·intro hb11; (try simp only [decide_eq_true_eq, decide_eq_false_iff_not, Bool.not_eq_true', Bool.not_eq_false', Bool.not_eq_eq_eq_not, Bool.not_true, Bool.not_false, Int.not_lt, Int.not_le] at hb11)
        refine GL_pass (nw_off rfl rfl rfl rfl rfl) rfl ?_
        refine GL_pass (nw_off rfl rfl rfl rfl rfl) rfl ?_
        refine GL_rd (v := .bool _) (wn_none rfl) rfl (rd_pickT rfl rfl rfl) ?_
        refine GL_rd (wn_none rfl) rfl (rd_not rfl rfl) ?_
        refine GL_nil ?_
        refine GW_false rfl ?_
        refine GW_skip ?_
        refine GW_region ?_
        refine GL_rd (v := .int _ _) (wn_none rfl) rfl (rd_move rfl rfl) ?_
        refine GL_rd (wn_none rfl) rfl (rd_bin rfl rfl rfl (bo_add64 (by omega))) ?_
        refine GL_rd (v := .int _ _) (wn_none rfl) rfl (rd_assign rfl rfl) ?_
        refine GL_nil ?_
        have hgd : nmB s[i] = true := by simp only [nmB, decide_eq_true_eq]; omega
        exact ihL0 (i + 1) _ _ (by simp only []; omega) ⟨_, slots2 rfl rfl, hp, by omega, fun j hj hjl => by by_cases e : j = i; subst e; exact hgd; exact hall j (by omega) hjl⟩
       ·intro hb11; (try simp only [decide_eq_true_eq, decide_eq_false_iff_not, Bool.not_eq_true', Bool.not_eq_false', Bool.not_eq_eq_eq_not, Bool.not_true, Bool.not_false, Int.not_lt, Int.not_le] at hb11)
        refine GL_rd (v := .int _ _) (wn_on rfl rfl rfl rfl) rfl (rd_move rfl rfl) ?_
        refine GL_rd (wn_on rfl rfl rfl rfl) rfl (rd_bin rfl rfl rfl bo_eql) ?_
        refine GL_rd (v := .bool _) (wn_none rfl) rfl (rd_pickF rfl rfl rfl) ?_
        refine GL_rd (wn_none rfl) rfl (rd_not rfl rfl) ?_
        refine GL_nil ?_
        refine GW_cond rfl (fun hb12 => ?_) (fun hb12 => ?_)
        ·(try simp only [decide_eq_true_eq, decide_eq_false_iff_not, Bool.not_eq_true', Bool.not_eq_false', Bool.not_eq_eq_eq_not, Bool.not_true, Bool.not_false, Int.not_lt, Int.not_le] at hb12)
         refine GW_seq ?_
         refine GW_region ?_
         refine GL_rd (v := .int _ _) (wn_none rfl) rfl (rd_assign rfl rfl) ?_
         refine GL_nil ?_
         refine GW_ret ?_
         have hbd : nmB s[i] = false := by simp only [nmB, decide_eq_false_iff_not]; omega
         exact ⟨_, res1 Try.results66 (rv_tmp (v := .int _ _) rfl rfl), by rw [nameC_bad (by omega) hbd], hp⟩
        ·(try simp only [decide_eq_true_eq, decide_eq_false_iff_not, Bool.not_eq_true', Bool.not_eq_false', Bool.not_eq_eq_eq_not, Bool.not_true, Bool.not_false, Int.not_lt, Int.not_le] at hb12)
         refine GW_skip ?_
         refine GW_region ?_
         refine GL_rd (v := .int _ _) (wn_none rfl) rfl (rd_move rfl rfl) ?_
         refine GL_rd (wn_none rfl) rfl (rd_bin rfl rfl rfl (bo_add64 (by omega))) ?_
         refine GL_rd (v := .int _ _) (wn_none rfl) rfl (rd_assign rfl rfl) ?_
         refine GL_nil ?_
         have hgd : nmB s[i] = true := by simp only [nmB, decide_eq_true_eq]; omega
         exact ihL0 (i + 1) _ _ (by simp only []; omega) ⟨_, slots2 rfl rfl, hp, by omega, fun j hj hjl => by by_cases e : j = i; subst e; exact hgd; exact hall j (by omega) hjl⟩
      ·intro hb10; (try simp only [decide_eq_true_eq, decide_eq_false_iff_not, Bool.not_eq_true', Bool.not_eq_false', Bool.not_eq_eq_eq_not, Bool.not_true, Bool.not_false, Int.not_lt, Int.not_le] at hb10)
       refine GL_pass (nw_off rfl rfl rfl rfl rfl) rfl ?_
       refine GL_pass (nw_off rfl rfl rfl rfl rfl) rfl ?_
       refine GL_rd (v := .bool _) (wn_on rfl rfl rfl rfl) rfl (rd_pickF rfl rfl rfl) ?_
       refine GL_rd (v := .bool _) (wn_none rfl) rfl (rd_pickF rfl rfl rfl) ?_
       refine GL_rd (v := .bool _) (wn_none rfl) rfl (rd_move rfl rfl) ?_
       refine GL_rd (v := .int _ _) (wn_on rfl rfl rfl rfl) rfl (rd_move rfl rfl) ?_
       refine GL_rd (wn_on rfl rfl rfl rfl) rfl (rd_bin rfl rfl rfl bo_eql) ?_
       refine GL_rd (v := .bool _) (wn_none rfl) rfl (rd_pickF rfl rfl rfl) ?_
       refine GL_rd (wn_none rfl) rfl (rd_not rfl rfl) ?_
       refine GL_nil ?_
       refine GW_cond rfl (fun hb13 => ?_) (fun hb13 => ?_)
       ·(try simp only [decide_eq_true_eq, decide_eq_false_iff_not, Bool.not_eq_true', Bool.not_eq_false', Bool.not_eq_eq_eq_not, Bool.not_true, Bool.not_false, Int.not_lt, Int.not_le] at hb13)
        refine GW_seq ?_
        refine GW_region ?_
        refine GL_rd (v := .int _ _) (wn_none rfl) rfl (rd_assign rfl rfl) ?_
        refine GL_nil ?_
        refine GW_ret ?_
        have hbd : nmB s[i] = false := by simp only [nmB, decide_eq_false_iff_not]; omega
        exact ⟨_, res1 Try.results66 (rv_tmp (v := .int _ _) rfl rfl), by rw [nameC_bad (by omega) hbd], hp⟩
       ·(try simp only [decide_eq_true_eq, decide_eq_false_iff_not, Bool.not_eq_true', Bool.not_eq_false', Bool.not_eq_eq_eq_not, Bool.not_true, Bool.not_false, Int.not_lt, Int.not_le] at hb13)
        refine GW_skip ?_
        refine GW_region ?_
        refine GL_rd (v := .int _ _) (wn_none rfl) rfl (rd_move rfl rfl) ?_
        refine GL_rd (wn_none rfl) rfl (rd_bin rfl rfl rfl (bo_add64 (by omega))) ?_
        refine GL_rd (v := .int _ _) (wn_none rfl) rfl (rd_assign rfl rfl) ?_
        refine GL_nil ?_
        have hgd : nmB s[i] = true := by simp only [nmB, decide_eq_true_eq]; omega
        exact ihL0 (i + 1) _ _ (by simp only []; omega) ⟨_, slots2 rfl rfl, hp, by omega, fun j hj hjl => by by_cases e : j = i; subst e; exact hgd; exact hall j (by omega) hjl⟩
    ·(try simp only [decide_eq_true_eq, decide_eq_false_iff_not, Bool.not_eq_true', Bool.not_eq_false', Bool.not_eq_eq_eq_not, Bool.not_true, Bool.not_false, Int.not_lt, Int.not_le] at hb3)
     refine GW_exit ?_
     refine GW_seq ?_
     refine GW_region ?_
     refine GL_rd (v := .int _ _) (wn_none rfl) rfl (rd_assign rfl rfl) ?_
     refine GL_nil ?_
     refine GW_ret ?_
     exact ⟨_, res1 Try.results66 (rv_tmp (v := .int _ _) rfl rfl), by rw [nameC_good (by omega) (fun j hj => hall j (by omega) hj)], hp⟩
   ·refine ⟨_, slots2 rfl rfl, hp, Nat.zero_le _, fun j hj => absurd hj (Nat.not_lt_zero _)⟩

theorem cl_Check (c : Cls) (w0 : World) (hs : c.nm.size ≤ 140737488351232) : Does Try.prog 122 #[.agg ⟨clC c⟩] w0 fun v w' => v = .int .i64 (clsC c) ∧ Hp w0 [] w' [] := by
 refine does_of (l := [.agg ⟨clC c⟩]) Try.func122 (by kernel_rfl) rfl Try.ntmps122 rfl rfl ?_
 have hp := Hp.refl w0 []
 refine GW_seq ?_
 refine GW_region ?_
 refine GL_box (wn_none rfl) rfl rfl rfl rfl hp ?_
 intro g w hp
 refine GL_rd (v := .int _ _) (wn_none rfl) rfl (rd_assign rfl rfl) ?_
 refine GL_nil ?_
 refine GW_seq ?_
 refine GW_seq ?_
 refine GW_region ?_
 refine GL_rd (wn_none rfl) rfl (rd_field rfl rfl fa97_0 _ rfl) ?_
 refine GL_rd (wn_none rfl) rfl (rd_load rfl rfl Try.underlying9 rfl ((cell_of_cells (hp.get 0 rfl) _).trans rfl)) ?_
 refine GL_call (wn_none rfl) rfl rfl (cl_Name c.nm _ hs) rfl ?_
 rintro _ w ⟨rfl, hk⟩
 have hp := hp.comp hk
 refine GL_rd (v := .int _ _) (wn_none rfl) rfl (rd_assign rfl rfl) ?_
 refine GL_nil ?_
 refine GW_seq ?_
 refine GW_region ?_
 refine GL_rd (v := .int _ _) (wn_none rfl) rfl (rd_move rfl rfl) ?_
 refine GL_rd (wn_none rfl) rfl (rd_bin rfl rfl rfl bo_neq) ?_
 refine GL_nil ?_
 refine GW_cond rfl (fun hb => ?_) (fun hb => ?_)
 ·(try simp only [decide_eq_true_eq, decide_eq_false_iff_not, Bool.not_eq_true', Bool.not_eq_false', Bool.not_eq_eq_eq_not, Bool.not_true, Bool.not_false, Int.not_lt, Int.not_le] at hb)
  have hn : ¬ nameC c.nm = 0 := hb
  refine GW_seq ?_
  refine GW_region ?_
  refine GL_rd (v := .int _ _) (wn_none rfl) rfl (rd_move rfl rfl) ?_
  refine GL_rd (v := .int _ _) (wn_none rfl) rfl (rd_assign rfl rfl) ?_
  refine GL_nil ?_
  refine GW_ret ?_
  exact ⟨_, res1 Try.results122 (rv_tmp (v := .int _ _) rfl rfl), by rw [clsC, if_neg hn], hp.mods⟩
 ·(try simp only [decide_eq_true_eq, decide_eq_false_iff_not, Bool.not_eq_true', Bool.not_eq_false', Bool.not_eq_eq_eq_not, Bool.not_true, Bool.not_false, Int.not_lt, Int.not_le] at hb)
  have hn : nameC c.nm = 0 := hb
  refine GW_skip ?_
  refine GW_seq ?_
  refine GW_seq ?_
  refine GW_region ?_
  refine GL_rd (wn_none rfl) rfl (rd_field rfl rfl fa97_1 _ rfl) ?_
  refine GL_rd (wn_none rfl) rfl (rd_load rfl rfl Try.underlying3 rfl ((cell_of_cells (hp.get 0 rfl) _).trans rfl)) ?_
  refine GL_rd (wn_none rfl) rfl (rd_bin rfl rfl rfl bo_lss) ?_
  refine GL_rd (v := .bool _) (wn_none rfl) rfl (rd_move rfl rfl) ?_
  refine GL_split (t := 13) (b := _) rfl ?_ ?_
  ·intro hb2; (try simp only [decide_eq_true_eq, decide_eq_false_iff_not, Bool.not_eq_true', Bool.not_eq_false', Bool.not_eq_eq_eq_not, Bool.not_true, Bool.not_false, Int.not_lt, Int.not_le] at hb2)
   refine GL_pass (nw_off rfl rfl rfl rfl rfl) rfl ?_
   refine GL_pass (nw_off rfl rfl rfl rfl rfl) rfl ?_
   refine GL_pass (nw_off rfl rfl rfl rfl rfl) rfl ?_
   refine GL_rd (v := .bool _) (wn_none rfl) rfl (rd_pickT rfl rfl rfl) ?_
   refine GL_nil ?_
   refine GW_true rfl ?_
   refine GW_seq ?_
   refine GW_region ?_
   refine GL_rd (v := .int _ _) (wn_none rfl) rfl (rd_assign rfl rfl) ?_
   refine GL_nil ?_
   refine GW_ret ?_
   have hpb : perB c.pd = false := by simp only [perB, decide_eq_false_iff_not]; omega
   exact ⟨_, res1 Try.results122 (rv_tmp (v := .int _ _) rfl rfl), by rw [clsC, if_pos hn, hpb]; rfl, hp.mods⟩
  ·intro hb2; (try simp only [decide_eq_true_eq, decide_eq_false_iff_not, Bool.not_eq_true', Bool.not_eq_false', Bool.not_eq_eq_eq_not, Bool.not_true, Bool.not_false, Int.not_lt, Int.not_le] at hb2)
   refine GL_rd (wn_on rfl rfl rfl rfl) rfl (rd_field rfl rfl fa97_1 _ rfl) ?_
   refine GL_rd (wn_on rfl rfl rfl rfl) rfl (rd_load rfl rfl Try.underlying3 rfl ((cell_of_cells (hp.get 0 rfl) _).trans rfl)) ?_
   refine GL_rd (wn_on rfl rfl rfl rfl) rfl (rd_bin rfl rfl rfl bo_gtr) ?_
   refine GL_rd (v := .bool _) (wn_none rfl) rfl (rd_pickF rfl rfl rfl) ?_
   refine GL_nil ?_
   refine GW_cond rfl (fun hb3 => ?_) (fun hb3 => ?_)
   ·(try simp only [decide_eq_true_eq, decide_eq_false_iff_not, Bool.not_eq_true', Bool.not_eq_false', Bool.not_eq_eq_eq_not, Bool.not_true, Bool.not_false, Int.not_lt, Int.not_le] at hb3)
    refine GW_seq ?_
    refine GW_region ?_
    refine GL_rd (v := .int _ _) (wn_none rfl) rfl (rd_assign rfl rfl) ?_
    refine GL_nil ?_
    refine GW_ret ?_
    have hpb : perB c.pd = false := by simp only [perB, decide_eq_false_iff_not]; omega
    exact ⟨_, res1 Try.results122 (rv_tmp (v := .int _ _) rfl rfl), by rw [clsC, if_pos hn, hpb]; rfl, hp.mods⟩
   ·(try simp only [decide_eq_true_eq, decide_eq_false_iff_not, Bool.not_eq_true', Bool.not_eq_false', Bool.not_eq_eq_eq_not, Bool.not_true, Bool.not_false, Int.not_lt, Int.not_le] at hb3)
    refine GW_skip ?_
    refine GW_seq ?_
    refine GW_region ?_
    refine GL_rd (v := .int _ _) (wn_none rfl) rfl (rd_assign rfl rfl) ?_
    refine GL_nil ?_
    refine GW_ret ?_
    have hpb : perB c.pd = true := by simp only [perB, decide_eq_true_eq]; omega
    exact ⟨_, res1 Try.results122 (rv_tmp (v := .int _ _) rfl rfl), by rw [clsC, if_pos hn, hpb]; rfl, hp.mods⟩

theorem ref_clCheck (c : Cls) (w0 : World) (hs : c.nm.size ≤ 140737488351232) : Does Try.prog 160 #[.agg ⟨clC c⟩] w0 fun v w' => v = .int .i64 (clsC c) ∧ Hp w0 [] w' [] := by
 refine does_of (l := [.agg ⟨clC c⟩]) Try.func160 (by kernel_rfl) rfl Try.ntmps160 rfl rfl ?_
 have hp := Hp.refl w0 []
 refine GW_seq ?_
 refine GW_region ?_
 refine GL_box (wn_none rfl) rfl rfl rfl rfl hp ?_
 intro g w hp
 refine GL_rd (v := .int _ _) (wn_none rfl) rfl (rd_assign rfl rfl) ?_
 refine GL_nil ?_
 refine GW_seq ?_
 refine GW_seq ?_
 refine GW_region ?_
 refine GL_rd (wn_none rfl) rfl (rd_field rfl rfl fa97_0 _ rfl) ?_
 refine GL_rd (wn_none rfl) rfl (rd_load rfl rfl Try.underlying9 rfl ((cell_of_cells (hp.get 0 rfl) _).trans rfl)) ?_
 refine GL_call (wn_none rfl) rfl rfl (ref_clName c.nm _ hs) rfl ?_
 rintro _ w ⟨rfl, hk⟩
 have hp := hp.comp hk
 refine GL_rd (v := .int _ _) (wn_none rfl) rfl (rd_assign rfl rfl) ?_
 refine GL_nil ?_
 refine GW_seq ?_
 refine GW_region ?_
 refine GL_rd (v := .int _ _) (wn_none rfl) rfl (rd_move rfl rfl) ?_
 refine GL_rd (wn_none rfl) rfl (rd_bin rfl rfl rfl bo_neq) ?_
 refine GL_nil ?_
 refine GW_cond rfl (fun hb => ?_) (fun hb => ?_)
 ·(try simp only [decide_eq_true_eq, decide_eq_false_iff_not, Bool.not_eq_true', Bool.not_eq_false', Bool.not_eq_eq_eq_not, Bool.not_true, Bool.not_false, Int.not_lt, Int.not_le] at hb)
  have hn : ¬ nameC c.nm = 0 := hb
  refine GW_seq ?_
  refine GW_region ?_
  refine GL_rd (v := .int _ _) (wn_none rfl) rfl (rd_move rfl rfl) ?_
  refine GL_rd (v := .int _ _) (wn_none rfl) rfl (rd_assign rfl rfl) ?_
  refine GL_nil ?_
  refine GW_ret ?_
  exact ⟨_, res1 Try.results160 (rv_tmp (v := .int _ _) rfl rfl), by rw [clsC, if_neg hn], hp.mods⟩
 ·(try simp only [decide_eq_true_eq, decide_eq_false_iff_not, Bool.not_eq_true', Bool.not_eq_false', Bool.not_eq_eq_eq_not, Bool.not_true, Bool.not_false, Int.not_lt, Int.not_le] at hb)
  have hn : nameC c.nm = 0 := hb
  refine GW_skip ?_
  refine GW_seq ?_
  refine GW_seq ?_
  refine GW_region ?_
  refine GL_rd (wn_none rfl) rfl (rd_field rfl rfl fa97_1 _ rfl) ?_
  refine GL_rd (wn_none rfl) rfl (rd_load rfl rfl Try.underlying3 rfl ((cell_of_cells (hp.get 0 rfl) _).trans rfl)) ?_
  refine GL_rd (wn_none rfl) rfl (rd_bin rfl rfl rfl bo_lss) ?_
  refine GL_rd (v := .bool _) (wn_none rfl) rfl (rd_move rfl rfl) ?_
  refine GL_split (t := 13) (b := _) rfl ?_ ?_
  ·intro hb2; (try simp only [decide_eq_true_eq, decide_eq_false_iff_not, Bool.not_eq_true', Bool.not_eq_false', Bool.not_eq_eq_eq_not, Bool.not_true, Bool.not_false, Int.not_lt, Int.not_le] at hb2)
   refine GL_pass (nw_off rfl rfl rfl rfl rfl) rfl ?_
   refine GL_pass (nw_off rfl rfl rfl rfl rfl) rfl ?_
   refine GL_pass (nw_off rfl rfl rfl rfl rfl) rfl ?_
   refine GL_rd (v := .bool _) (wn_none rfl) rfl (rd_pickT rfl rfl rfl) ?_
   refine GL_nil ?_
   refine GW_true rfl ?_
   refine GW_seq ?_
   refine GW_region ?_
   refine GL_rd (v := .int _ _) (wn_none rfl) rfl (rd_assign rfl rfl) ?_
   refine GL_nil ?_
   refine GW_ret ?_
   have hpb : perB c.pd = false := by simp only [perB, decide_eq_false_iff_not]; omega
   exact ⟨_, res1 Try.results160 (rv_tmp (v := .int _ _) rfl rfl), by rw [clsC, if_pos hn, hpb]; rfl, hp.mods⟩
  ·intro hb2; (try simp only [decide_eq_true_eq, decide_eq_false_iff_not, Bool.not_eq_true', Bool.not_eq_false', Bool.not_eq_eq_eq_not, Bool.not_true, Bool.not_false, Int.not_lt, Int.not_le] at hb2)
   refine GL_rd (wn_on rfl rfl rfl rfl) rfl (rd_field rfl rfl fa97_1 _ rfl) ?_
   refine GL_rd (wn_on rfl rfl rfl rfl) rfl (rd_load rfl rfl Try.underlying3 rfl ((cell_of_cells (hp.get 0 rfl) _).trans rfl)) ?_
   refine GL_rd (wn_on rfl rfl rfl rfl) rfl (rd_bin rfl rfl rfl bo_gtr) ?_
   refine GL_rd (v := .bool _) (wn_none rfl) rfl (rd_pickF rfl rfl rfl) ?_
   refine GL_nil ?_
   refine GW_cond rfl (fun hb3 => ?_) (fun hb3 => ?_)
   ·(try simp only [decide_eq_true_eq, decide_eq_false_iff_not, Bool.not_eq_true', Bool.not_eq_false', Bool.not_eq_eq_eq_not, Bool.not_true, Bool.not_false, Int.not_lt, Int.not_le] at hb3)
    refine GW_seq ?_
    refine GW_region ?_
    refine GL_rd (v := .int _ _) (wn_none rfl) rfl (rd_assign rfl rfl) ?_
    refine GL_nil ?_
    refine GW_ret ?_
    have hpb : perB c.pd = false := by simp only [perB, decide_eq_false_iff_not]; omega
    exact ⟨_, res1 Try.results160 (rv_tmp (v := .int _ _) rfl rfl), by rw [clsC, if_pos hn, hpb]; rfl, hp.mods⟩
   ·(try simp only [decide_eq_true_eq, decide_eq_false_iff_not, Bool.not_eq_true', Bool.not_eq_false', Bool.not_eq_eq_eq_not, Bool.not_true, Bool.not_false, Int.not_lt, Int.not_le] at hb3)
    refine GW_skip ?_
    refine GW_seq ?_
    refine GW_region ?_
    refine GL_rd (v := .int _ _) (wn_none rfl) rfl (rd_assign rfl rfl) ?_
    refine GL_nil ?_
    refine GW_ret ?_
    have hpb : perB c.pd = true := by simp only [perB, decide_eq_true_eq]; omega
    exact ⟨_, res1 Try.results160 (rv_tmp (v := .int _ _) rfl rfl), by rw [clsC, if_pos hn, hpb]; rfl, hp.mods⟩

theorem cl_New (w0 : World) : Does Try.prog 121 #[] w0 fun v w' => ∃ gq mq, v = .pointer (some ⟨gq, 0, none⟩) ∧ Hp w0 [] w' [cells gq 180 [.slice none 0 0, .map (some mq)], .blk mq (.map ⟨mapE 0 []⟩ 0)] := by
 refine does_of (l := []) Try.func121 (by kernel_rfl) rfl Try.ntmps121 rfl rfl ?_
 have hp := Hp.refl w0 []
 refine GW_seq ?_
 refine GW_region ?_
 refine GL_rd (v := _) (wn_none rfl) rfl (rd_assign rfl rfl) ?_
 refine GL_nil ?_
 refine GW_seq ?_
 refine GW_region ?_
 refine GL_makeMap (wn_none rfl) rfl rfl hp ?_
 intro g w hp
 refine GL_rd (wn_none rfl) rfl (rd_buildS (L := [.slice none 0 0, .map (some g)]) rfl tz180 pl180 (by kernel_rfl)) ?_
 refine GL_box (wn_none rfl) rfl rfl rfl rfl hp ?_
 intro g2 w hp
 refine GL_rd (v := .pointer (some ⟨_, _, none⟩)) (wn_none rfl) rfl (rd_assign rfl rfl) ?_
 refine GL_nil ?_
 refine GW_ret ?_
 exact ⟨_, res1 Try.results121 (rv_tmp (v := .pointer (some ⟨_, _, none⟩)) rfl rfl), g2, g, rfl, hp⟩

theorem cl_Len (gq mq : Nat) (sv : Value) (m : Nat) (l : List Cls) (w0 : World) (hA : (cells gq 180 [sv, .map (some mq)]).at_ w0) (hR : Sl w0 sv 4 m (l.flatMap clC)) (hM : (Res.blk mq (.map ⟨mapE 0 l⟩ l.length)).at_ w0) : Does Try.prog 62 #[.pointer (some ⟨gq, 0, none⟩)] w0 fun v w' => v = .int .i64 (m : Int) ∧ Hp w0 [] w' [] := by
 obtain ⟨A, c, rfl⟩ := sl_shape hR
 have hlen := flat_len clC_len (by decide) hR.len
 have hmle := hR.le
 refine does_of (l := [.pointer (some ⟨gq, 0, none⟩)]) Try.func62 (by kernel_rfl) rfl Try.ntmps62 rfl rfl ?_
 have hp := Hp.refl w0 []
 refine GW_seq ?_
 refine GW_region ?_
 refine GL_rd (v := .int _ _) (wn_none rfl) rfl (rd_assign rfl rfl) ?_
 refine GL_nil ?_
 refine GW_seq ?_
 refine GW_region ?_
 refine GL_rd (v := .pointer (some ⟨_, _, none⟩)) (wn_none rfl) rfl (rd_move rfl rfl) ?_
 refine GL_rd (wn_none rfl) rfl (rd_nilCheck rfl rfl) ?_
 refine GL_rd (wn_none rfl) rfl (rd_field rfl rfl fa180_0 _ rfl) ?_
 refine GL_rd (v := .slice _ _ _) (wn_none rfl) rfl (rd_load rfl rfl Try.underlying90 rfl ((cell_of_cells (cells.keep hA hp.mod) _).trans rfl)) ?_
 refine GL_rd (wn_none rfl) rfl (rd_len rfl rfl Try.underlying90) ?_
 refine GL_rd (v := .int _ _) (wn_none rfl) rfl (rd_assign rfl rfl) ?_
 refine GL_nil ?_
 refine GW_ret ?_
 exact ⟨_, res1 Try.results62 (rv_tmp (v := .int _ _) rfl rfl), rfl, hp.mods⟩

theorem cl_Find (gq mq : Nat) (sv : Value) (m : Nat) (l : List Cls) (s : ByteArray) (w0 : World) (hA : (cells gq 180 [sv, .map (some mq)]).at_ w0) (hR : Sl w0 sv 4 m (l.flatMap clC)) (hM : (Res.blk mq (.map ⟨mapE 0 l⟩ l.length)).at_ w0) : Does Try.prog 59 #[.pointer (some ⟨gq, 0, none⟩), .string s] w0 fun v w' => v = .tuple #[.int .i64 (optP (findI l s)), .bool (findI l s).isSome] ∧ Hp w0 [] w' [] := by
 obtain ⟨A, c, rfl⟩ := sl_shape hR
 have hlen := flat_len clC_len (by decide) hR.len
 have hmle := hR.le
 refine does_of (l := [.pointer (some ⟨gq, 0, none⟩), .string s]) Try.func59 (by kernel_rfl) rfl Try.ntmps59 rfl rfl ?_
 have hp := Hp.refl w0 []
 refine GW_seq ?_
 refine GW_region ?_
 refine GL_rd (v := .int _ _) (wn_none rfl) rfl (rd_assign rfl rfl) ?_
 refine GL_rd (v := .bool _) (wn_none rfl) rfl (rd_assign rfl rfl) ?_
 refine GL_nil ?_
 refine GW_seq ?_
 refine GW_region ?_
 refine GL_rd (v := .pointer (some ⟨_, _, none⟩)) (wn_none rfl) rfl (rd_move rfl rfl) ?_
 refine GL_rd (wn_none rfl) rfl (rd_nilCheck rfl rfl) ?_
 refine GL_rd (wn_none rfl) rfl (rd_field rfl rfl fa180_1 _ rfl) ?_
 refine GL_rd (wn_none rfl) rfl (rd_load rfl rfl Try.underlying65 rfl ((cell_of_cells (cells.keep hA hp.mod) _).trans rfl)) ?_
 refine GL_rd (v := .string _) (wn_none rfl) rfl (rd_move rfl rfl) ?_
 refine GL_rd (wn_none rfl) rfl (rd_lookupC rfl rfl rfl rfl Try.underlying65 Try.underlying9 tz3 (Res.kept hM hp.mod (by simp))) ?_
 refine GL_rd (v := .tuple _) (wn_none rfl) rfl (rd_move rfl rfl) ?_
 refine GL_rd (v := .int _ _) (wn_none rfl) rfl (rd_extract rfl rfl rfl) ?_
 refine GL_rd (v := .bool _) (wn_none rfl) rfl (rd_extract rfl rfl rfl) ?_
 refine GL_rd (v := .int _ _) (wn_none rfl) rfl (rd_assign rfl rfl) ?_
 refine GL_rd (v := .bool _) (wn_none rfl) rfl (rd_assign rfl rfl) ?_
 refine GL_nil ?_
 refine GW_seq ?_
 refine GW_region ?_
 refine GL_rd (v := .int _ _) (wn_none rfl) rfl (rd_move rfl rfl) ?_
 refine GL_rd (v := .bool _) (wn_none rfl) rfl (rd_move rfl rfl) ?_
 refine GL_rd (v := .int _ _) (wn_none rfl) rfl (rd_assign rfl rfl) ?_
 refine GL_rd (v := .bool _) (wn_none rfl) rfl (rd_assign rfl rfl) ?_
 refine GL_nil ?_
 refine GW_ret ?_
 exact ⟨_, res2 Try.results59 (rv_tmp (v := .int _ _) rfl rfl) (rv_tmp (v := .bool _) rfl rfl), rfl, hp.mods⟩

theorem cl_Get (gq mq : Nat) (sv : Value) (m : Nat) (l : List Cls) (i : Int) (w0 : World) (hA : (cells gq 180 [sv, .map (some mq)]).at_ w0) (hR : Sl w0 sv 4 m (l.flatMap clC)) (hM : (Res.blk mq (.map ⟨mapE 0 l⟩ l.length)).at_ w0) : Does Try.prog 61 #[.pointer (some ⟨gq, 0, none⟩), .int .i64 i] w0 fun v w' => v = .tuple #[.agg ⟨clC (if 0 ≤ i ∧ i < m then clAt l i.toNat else default)⟩, .bool (decide (0 ≤ i ∧ i < m))] ∧ Hp w0 [] w' [] := by
 obtain ⟨A, c, rfl⟩ := sl_shape hR
 have hlen := flat_len clC_len (by decide) hR.len
 have hmle := hR.le
 refine does_of (l := [.pointer (some ⟨gq, 0, none⟩), .int .i64 i]) Try.func61 (by kernel_rfl) rfl Try.ntmps61 rfl rfl ?_
 have hp := Hp.refl w0 []
 refine GW_seq ?_
 refine GW_region ?_
 refine GL_alloc (wn_none rfl) rfl rfl tz97 rfl hp ?_
 intro g w hp
 refine GL_rd (v := .bool _) (wn_none rfl) rfl (rd_assign rfl rfl) ?_
 refine GL_nil ?_
 refine GW_seq ?_
 refine GW_seq ?_
 refine GW_region ?_
 refine GL_rd (v := .int _ _) (wn_none rfl) rfl (rd_move rfl rfl) ?_
 refine GL_rd (wn_none rfl) rfl (rd_bin rfl rfl rfl bo_lss) ?_
 refine GL_rd (v := .bool _) (wn_none rfl) rfl (rd_move rfl rfl) ?_
 refine GL_split (t := 8) (b := _) rfl ?_ ?_
 ·intro hb; (try simp only [decide_eq_true_eq, decide_eq_false_iff_not, Bool.not_eq_true', Bool.not_eq_false', Bool.not_eq_eq_eq_not, Bool.not_true, Bool.not_false, Int.not_lt, Int.not_le] at hb)
  refine GL_pass (nw_off rfl rfl rfl rfl rfl) rfl ?_
  refine GL_pass (nw_off rfl rfl rfl rfl rfl) rfl ?_
  refine GL_pass (nw_off rfl rfl rfl rfl rfl) rfl ?_
  refine GL_pass (nw_off rfl rfl rfl rfl rfl) rfl ?_
  refine GL_pass (nw_off rfl rfl rfl rfl rfl) rfl ?_
  refine GL_pass (nw_off rfl rfl rfl rfl rfl) rfl ?_
  refine GL_pass (nw_off rfl rfl rfl rfl rfl) rfl ?_
  refine GL_rd (v := .bool _) (wn_none rfl) rfl (rd_pickT rfl rfl rfl) ?_
  refine GL_nil ?_
  refine GW_true rfl ?_
  refine GW_seq ?_
  refine GW_region ?_
  refine GL_rd (wn_none rfl) rfl (rd_buildS (L := clC default) rfl tz97 pl97 (by kernel_rfl)) ?_
  refine GL_store (i := 0) (wn_none rfl) rfl rfl rfl rfl ts97 rfl rfl (clC_one _) hp rfl (by decide) rfl ?_
  intro w hp
  refine GL_rd (v := .bool _) (wn_none rfl) rfl (rd_assign rfl rfl) ?_
  refine GL_nil ?_
  refine GW_ret ?_
  exact ⟨_, res2 Try.results61 (rv_cell rfl rfl Try.underlying97 rfl ts97 rfl (hp.get 0 rfl)) (rv_tmp (v := .bool _) rfl rfl), by rw [if_neg (by omega), decide_eq_false (by omega)] <;> rfl, hp.mods⟩
 ·intro hb; (try simp only [decide_eq_true_eq, decide_eq_false_iff_not, Bool.not_eq_true', Bool.not_eq_false', Bool.not_eq_eq_eq_not, Bool.not_true, Bool.not_false, Int.not_lt, Int.not_le] at hb)
  refine GL_rd (v := .int _ _) (wn_on rfl rfl rfl rfl) rfl (rd_move rfl rfl) ?_
  refine GL_rd (v := .pointer (some ⟨_, _, none⟩)) (wn_on rfl rfl rfl rfl) rfl (rd_move rfl rfl) ?_
  refine GL_rd (wn_on rfl rfl rfl rfl) rfl (rd_nilCheck rfl rfl) ?_
  refine GL_rd (wn_on rfl rfl rfl rfl) rfl (rd_field rfl rfl fa180_0 _ rfl) ?_
  refine GL_rd (v := .slice _ _ _) (wn_on rfl rfl rfl rfl) rfl (rd_load rfl rfl Try.underlying90 rfl ((cell_of_cells (cells.keep hA hp.mod) _).trans rfl)) ?_
  refine GL_rd (wn_on rfl rfl rfl rfl) rfl (rd_len rfl rfl Try.underlying90) ?_
  refine GL_rd (wn_on rfl rfl rfl rfl) rfl (rd_bin rfl rfl rfl bo_geq) ?_
  refine GL_rd (v := .bool _) (wn_none rfl) rfl (rd_pickF rfl rfl rfl) ?_
  refine GL_nil ?_
  refine GW_cond rfl (fun hb2 => ?_) (fun hb2 => ?_)
  ·(try simp only [decide_eq_true_eq, decide_eq_false_iff_not, Bool.not_eq_true', Bool.not_eq_false', Bool.not_eq_eq_eq_not, Bool.not_true, Bool.not_false, Int.not_lt, Int.not_le] at hb2)
   refine GW_seq ?_
   refine GW_region ?_
   refine GL_rd (wn_none rfl) rfl (rd_buildS (L := clC default) rfl tz97 pl97 (by kernel_rfl)) ?_
   refine GL_store (i := 0) (wn_none rfl) rfl rfl rfl rfl ts97 rfl rfl (clC_one _) hp rfl (by decide) rfl ?_
   intro w hp
   refine GL_rd (v := .bool _) (wn_none rfl) rfl (rd_assign rfl rfl) ?_
   refine GL_nil ?_
   refine GW_ret ?_
   exact ⟨_, res2 Try.results61 (rv_cell rfl rfl Try.underlying97 rfl ts97 rfl (hp.get 0 rfl)) (rv_tmp (v := .bool _) rfl rfl), by rw [if_neg (by omega), decide_eq_false (by omega)] <;> rfl, hp.mods⟩
  ·(try simp only [decide_eq_true_eq, decide_eq_false_iff_not, Bool.not_eq_true', Bool.not_eq_false', Bool.not_eq_eq_eq_not, Bool.not_true, Bool.not_false, Int.not_lt, Int.not_le] at hb2)
   obtain ⟨gB, bB, rfl⟩ := hR.addr (by rw [flat_length clC_len]; omega)
   refine GW_skip ?_
   refine GW_seq ?_
   refine GW_region ?_
   refine GL_rd (v := .pointer (some ⟨_, _, none⟩)) (wn_none rfl) rfl (rd_move rfl rfl) ?_
   refine GL_rd (wn_none rfl) rfl (rd_nilCheck rfl rfl) ?_
   refine GL_rd (wn_none rfl) rfl (rd_field rfl rfl fa180_0 _ rfl) ?_
   refine GL_rd (v := .slice _ _ _) (wn_none rfl) rfl (rd_load rfl rfl Try.underlying90 rfl ((cell_of_cells (cells.keep hA hp.mod) _).trans rfl)) ?_
   refine GL_rd (v := .int _ _) (wn_none rfl) rfl (rd_move rfl rfl) ?_
   refine GL_rd (wn_none rfl) rfl (rd_indexS (j := i.toNat) rfl rfl rfl Try.underlying90 ts97 (by omega) (by omega) _ rfl) ?_
   refine GL_rd (wn_none rfl) rfl (rd_loadN (L := clC (clAt l i.toNat)) rfl rfl Try.underlying97 rfl ts97 rfl (fun j u hj => (hR.keep hp.mod).elem clC_len i.toNat j (clC_lt hj) (clAt_some (by omega)) hj)) ?_
   refine GL_store (i := 0) (wn_none rfl) rfl rfl rfl rfl ts97 rfl rfl (clC_one _) hp rfl (by decide) rfl ?_
   intro w hp
   refine GL_rd (v := .bool _) (wn_none rfl) rfl (rd_assign rfl rfl) ?_
   refine GL_nil ?_
   refine GW_ret ?_
   exact ⟨_, res2 Try.results61 (rv_cell rfl rfl Try.underlying97 rfl ts97 rfl (hp.get 0 rfl)) (rv_tmp (v := .bool _) rfl rfl), by rw [if_pos (by omega), decide_eq_true (by omega)] <;> rfl, hp.mods⟩

theorem cl_All (gq mq : Nat) (sv : Value) (m : Nat) (l : List Cls) (w0 : World) (hA : (cells gq 180 [sv, .map (some mq)]).at_ w0) (hR : Sl w0 sv 4 m (l.flatMap clC)) (hM : (Res.blk mq (.map ⟨mapE 0 l⟩ l.length)).at_ w0) (hm : m ≤ 1000000) : Does Try.prog 64 #[.pointer (some ⟨gq, 0, none⟩)] w0 fun v w' => Hp w0 [] w' [.row 97 4 v m (l.flatMap clC)] := by
 obtain ⟨A, c, rfl⟩ := sl_shape hR
 have hlen := flat_len clC_len (by decide) hR.len
 have hmle := hR.le
 refine does_of (l := [.pointer (some ⟨gq, 0, none⟩)]) Try.func64 (by kernel_rfl) rfl Try.ntmps64 rfl rfl ?_
 have hp := Hp.refl w0 []
 refine GW_seq ?_
 refine GW_region ?_
 refine GL_rd (v := .slice _ _ _) (wn_none rfl) rfl (rd_assign rfl rfl) ?_
 refine GL_nil ?_
 refine GW_seq ?_
 refine GW_region ?_
 refine GL_lit (L := []) (wn_none rfl) rfl rfl Try.underlying90 ts97 tz97 rfl (by kernel_rfl) rfl rfl hp ?_
 intro g w hp
 refine GL_rd (v := .pointer (some ⟨_, _, none⟩)) (wn_none rfl) rfl (rd_move rfl rfl) ?_
 refine GL_rd (wn_none rfl) rfl (rd_nilCheck rfl rfl) ?_
 refine GL_rd (wn_none rfl) rfl (rd_field rfl rfl fa180_0 _ rfl) ?_
 refine GL_rd (v := .slice _ _ _) (wn_none rfl) rfl (rd_load rfl rfl Try.underlying90 rfl ((cell_of_cells (cells.keep hA hp.mod) _).trans rfl)) ?_
 refine GL_append (i := 0) (wn_none rfl) rfl rfl rfl rfl Try.underlying90 ti97 rfl (by decide) hp rfl (hR.keep hp.mod) (flat_one clC_one _) (by omega) (by omega) ?_
 intro v w hp
 refine GL_rd (v := v) (wn_none rfl) rfl (rd_assign rfl rfl) ?_
 refine GL_nil ?_
 refine GW_ret ?_
 refine ⟨_, res1 Try.results64 (rv_tmp (v := v) rfl rfl), ?_⟩
 exact hp.cast (by rw [Nat.zero_add, List.nil_append]; rfl)

theorem cl_Add (gq mq : Nat) (sv : Value) (m : Nat) (l : List Cls) (F0 : List Nat) (c : Cls) (w0 : World) (hm : m ≤ 1000000) (hs : c.nm.size ≤ 140737488351232) (hp0 : Hp w0 F0 w0 [cells gq 180 [sv, .map (some mq)], .row 97 4 sv m (l.flatMap clC), .blk mq (.map ⟨mapE 0 l⟩ l.length)]) : Does Try.prog 67 #[.pointer (some ⟨gq, 0, none⟩), .agg ⟨clC c⟩] w0 fun v w' => v = .int .i64 (claC l c) ∧ ∃ sv2, Hp w0 F0 w' [cells gq 180 [sv2, .map (some mq)], .row 97 4 sv2 (claL l c).length ((claL l c).flatMap clC), .blk mq (.map ⟨mapE 0 (claL l c)⟩ (claL l c).length)] := by
 obtain ⟨A, c0, rfl⟩ := row_shape (hp0.get 1 rfl)
 have hlen := flat_len clC_len (by decide) (row_len (hp0.get 1 rfl))
 have hmle := (Sl.row (hp0.get 1 rfl)).le
 subst hlen
 refine does_of (l := [.pointer (some ⟨gq, 0, none⟩), .agg ⟨clC c⟩]) Try.func67 (by kernel_rfl) rfl Try.ntmps67 rfl rfl ?_
 have hp := hp0
 refine GW_seq ?_
 refine GW_region ?_
 refine GL_box (wn_none rfl) rfl rfl rfl rfl hp ?_
 intro g w hp
 refine GL_rd (v := .int _ _) (wn_none rfl) rfl (rd_assign rfl rfl) ?_
 refine GL_nil ?_
 refine GW_seq ?_
 refine GW_seq ?_
 refine GW_region ?_
 refine GL_rd (wn_none rfl) rfl (rd_loadC rfl rfl Try.underlying97 rfl ts97 (hp.get 0 rfl) rfl) ?_
 refine GL_call (wn_none rfl) rfl rfl (cl_Check c _ hs) rfl ?_
 rintro _ w ⟨rfl, hk⟩
 have hp := hp.comp hk
 refine GL_rd (v := .int _ _) (wn_none rfl) rfl (rd_assign rfl rfl) ?_
 refine GL_nil ?_
 refine GW_seq ?_
 refine GW_region ?_
 refine GL_rd (v := .int _ _) (wn_none rfl) rfl (rd_move rfl rfl) ?_
 refine GL_rd (wn_none rfl) rfl (rd_bin rfl rfl rfl bo_neq) ?_
 refine GL_nil ?_
 refine GW_cond rfl (fun hb => ?_) (fun hb => ?_)
 ·(try simp only [decide_eq_true_eq, decide_eq_false_iff_not, Bool.not_eq_true', Bool.not_eq_false', Bool.not_eq_eq_eq_not, Bool.not_true, Bool.not_false, Int.not_lt, Int.not_le] at hb)
  have hc : ¬ clsC c = 0 := hb
  refine GW_seq ?_
  refine GW_region ?_
  refine GL_rd (v := .int _ _) (wn_none rfl) rfl (rd_move rfl rfl) ?_
  refine GL_rd (v := .int _ _) (wn_none rfl) rfl (rd_assign rfl rfl) ?_
  refine GL_nil ?_
  refine GW_ret ?_
  have e := cla_no (l := l) hc
  refine ⟨_, res1 Try.results67 (rv_tmp (v := .int _ _) rfl rfl), by rw [e.1], .slice A l.length c0, ?_⟩
  rw [e.2]
  have hp := ((((hp.front 3 rfl).front 3 rfl).front 3 rfl).take 3)
  exact hp
 ·(try simp only [decide_eq_true_eq, decide_eq_false_iff_not, Bool.not_eq_true', Bool.not_eq_false', Bool.not_eq_eq_eq_not, Bool.not_true, Bool.not_false, Int.not_lt, Int.not_le] at hb)
  have hc : clsC c = 0 := hb
  refine GW_skip ?_
  refine GW_seq ?_
  refine GW_seq ?_
  cases hfi : findI l c.nm with
  | none =>
   refine GW_drawnK 12 (.one 0 true (.one 1 true (.one 2 true (.one 3 true (.one 4 true (.one 5 true (.one 6 true (.one 7 true (.one 8 true (.one 9 true (.one 10 true (.one 11 true .nil)))))))))))) mixed (by kernel_rfl) hp (fun _ h => (h.sub (.cons_cons _ (.cons_cons _ (.cons _ (.cons_cons _ .slnil)))))) fun w hp => ?_
   have hpS := (hp.sub (.cons_cons _ (.cons_cons _ (.cons _ (.cons_cons _ .slnil)))))
   refine GO_rdT (v := .pointer (some ⟨_, _, none⟩)) rfl (wn_none rfl) rfl (fun w => (rd_move rfl rfl)) ?_
   refine GO_rdT rfl (wn_none rfl) rfl (fun w => (rd_nilCheck rfl rfl)) ?_
   refine GO_rdT rfl (wn_none rfl) rfl (fun w => (rd_field rfl rfl fa180_1 _ rfl)) ?_
   refine GO_rd rfl rfl (wn_none rfl) rfl hpS (fun w hp => (rd_load rfl rfl Try.underlying65 rfl ((cell_of_cells (hp.get 1 rfl) _).trans rfl))) ?_
   refine GO_rdT rfl (wn_none rfl) rfl (fun w => (rd_field rfl rfl fa97_0 _ rfl)) ?_
   refine GO_rd rfl rfl (wn_none rfl) rfl hpS (fun w hp => (rd_load rfl rfl Try.underlying9 rfl ((cell_of_cells (hp.get 0 rfl) _).trans rfl))) ?_
   refine GO_rd rfl rfl (wn_none rfl) rfl hpS (fun w hp => (rd_lookupC hfi rfl rfl rfl Try.underlying65 Try.underlying9 tz3 (hp.get 2 rfl))) ?_
   refine GO_rdT (v := .tuple _) rfl (wn_none rfl) rfl (fun w => (rd_move rfl rfl)) ?_
   refine GO_rdT (v := .int _ _) rfl (wn_none rfl) rfl (fun w => (rd_extract rfl rfl rfl)) ?_
   refine GO_rdT (v := .bool _) rfl (wn_none rfl) rfl (fun w => (rd_extract rfl rfl rfl)) ?_
   refine GO_rdT (v := .int _ _) rfl (wn_none rfl) rfl (fun w => (rd_assign rfl rfl)) ?_
   refine GO_rdT (v := .bool _) rfl (wn_none rfl) rfl (fun w => (rd_assign rfl rfl)) ?_
   refine GO_nil ?_
   refine GW_seq ?_
   refine GW_region ?_
   refine GL_rd (v := .bool _) (wn_none rfl) rfl (rd_move rfl rfl) ?_
   refine GL_nil ?_
   refine GW_false rfl ?_
   refine GW_skip ?_
   refine GW_seq ?_
   refine GW_seq ?_
   refine GW_region ?_
   refine GL_rd (v := .pointer (some ⟨_, _, none⟩)) (wn_none rfl) rfl (rd_move rfl rfl) ?_
   refine GL_rd (wn_none rfl) rfl (rd_nilCheck rfl rfl) ?_
   refine GL_rd (wn_none rfl) rfl (rd_field rfl rfl fa180_0 _ rfl) ?_
   refine GL_rd (v := .slice _ _ _) (wn_none rfl) rfl (rd_load rfl rfl Try.underlying90 rfl ((cell_of_cells (hp.get 1 rfl) _).trans rfl)) ?_
   refine GL_rd (wn_none rfl) rfl (rd_len rfl rfl Try.underlying90) ?_
   refine GL_rd (wn_none rfl) rfl (rd_bin rfl rfl rfl bo_geq) ?_
   refine GL_nil ?_
   refine GW_cond rfl (fun hb2 => ?_) (fun hb2 => ?_)
   ·(try simp only [decide_eq_true_eq, decide_eq_false_iff_not, Bool.not_eq_true', Bool.not_eq_false', Bool.not_eq_eq_eq_not, Bool.not_true, Bool.not_false, Int.not_lt, Int.not_le] at hb2)
    have h8 : 8 ≤ l.length := by have := hb2; omega
    refine GW_seq ?_
    refine GW_region ?_
    refine GL_rd (v := .int _ _) (wn_none rfl) rfl (rd_assign rfl rfl) ?_
    refine GL_nil ?_
    refine GW_ret ?_
    have e := cla_full hc hfi h8
    refine ⟨_, res1 Try.results67 (rv_tmp (v := .int _ _) rfl rfl), by rw [e.1], .slice A l.length c0, ?_⟩
    rw [e.2]
    have hp := ((((hp.front 3 rfl).front 3 rfl).front 3 rfl).take 3)
    exact hp
   ·(try simp only [decide_eq_true_eq, decide_eq_false_iff_not, Bool.not_eq_true', Bool.not_eq_false', Bool.not_eq_eq_eq_not, Bool.not_true, Bool.not_false, Int.not_lt, Int.not_le] at hb2)
    have h8 : ¬ 8 ≤ l.length := by have := hb2; omega
    refine GW_skip ?_
    refine GW_seq ?_
    refine GW_drawnK 12 (.one 0 true (.one 1 true (.one 2 true (.one 3 true (.one 4 true (.one 5 true (.one 6 true (.one 7 true (.one 8 true (.one 9 true (.one 10 true (.one 11 false .nil)))))))))))) mixed (by kernel_rfl) hp (fun _ h => (h.sub (.cons_cons _ (.cons_cons _ (.cons _ (.cons _ .slnil)))))) fun w hp => ?_
    have hpS2 := (hp.sub (.cons_cons _ (.cons_cons _ (.cons _ (.cons _ .slnil)))))
    refine GO_rdT (v := .pointer (some ⟨_, _, none⟩)) rfl (wn_none rfl) rfl (fun w => (rd_move rfl rfl)) ?_
    refine GO_rdT rfl (wn_none rfl) rfl (fun w => (rd_nilCheck rfl rfl)) ?_
    refine GO_rdT rfl (wn_none rfl) rfl (fun w => (rd_field rfl rfl fa180_1 _ rfl)) ?_
    refine GO_rd rfl rfl (wn_none rfl) rfl hpS2 (fun w hp => (rd_load rfl rfl Try.underlying65 rfl ((cell_of_cells (hp.get 1 rfl) _).trans rfl))) ?_
    refine GO_rdT rfl (wn_none rfl) rfl (fun w => (rd_field rfl rfl fa97_0 _ rfl)) ?_
    refine GO_rd rfl rfl (wn_none rfl) rfl hpS2 (fun w hp => (rd_load rfl rfl Try.underlying9 rfl ((cell_of_cells (hp.get 0 rfl) _).trans rfl))) ?_
    refine GO_rdT (v := .pointer (some ⟨_, _, none⟩)) rfl (wn_none rfl) rfl (fun w => (rd_move rfl rfl)) ?_
    refine GO_rdT rfl (wn_none rfl) rfl (fun w => (rd_nilCheck rfl rfl)) ?_
    refine GO_rdT rfl (wn_none rfl) rfl (fun w => (rd_field rfl rfl fa180_0 _ rfl)) ?_
    refine GO_rd (v := .slice _ _ _) rfl rfl (wn_none rfl) rfl hpS2 (fun w hp => (rd_load rfl rfl Try.underlying90 rfl ((cell_of_cells (hp.get 1 rfl) _).trans rfl))) ?_
    refine GO_rd rfl rfl (wn_none rfl) rfl hpS2 (fun w hp => (rd_len rfl rfl Try.underlying90)) ?_
    refine GO_of_GL rfl ?_
    refine GL_mapPut (i := 3) (wn_none rfl) rfl rfl rfl rfl rfl Try.underlying65 Try.underlying9 hp rfl (map_none hfi) ?_
    intro w hp
    have hpS3 := (hp.sub (.cons_cons _ (.cons_cons _ (.cons _ (.cons _ .slnil)))))
    refine GL_nil ⟨fun _ => hpS3, ?_⟩
    refine GO_nil ?_
    refine GW_seq ?_
    refine GW_drawnK 10 (.one 0 true (.one 1 true (.one 2 true (.one 3 true (.one 4 true (.one 5 true (.one 6 false (.one 7 false (.one 8 true (.one 9 true (.one 10 false .nil))))))))))) mixed (by kernel_rfl) hp (fun _ h => (h.sub (.cons_cons _ (.cons_cons _ (.cons _ (.cons _ .slnil)))))) fun w hp => ?_
    have hpS4 := (hp.sub (.cons_cons _ (.cons_cons _ (.cons _ (.cons _ .slnil)))))
    refine GO_rdT (v := .pointer (some ⟨_, _, none⟩)) rfl (wn_none rfl) rfl (fun w => (rd_move rfl rfl)) ?_
    refine GO_rdT (v := .pointer (some ⟨_, _, none⟩)) rfl (wn_none rfl) rfl (fun w => (rd_move rfl rfl)) ?_
    refine GO_rdT rfl (wn_none rfl) rfl (fun w => (rd_nilCheck rfl rfl)) ?_
    refine GO_rdT rfl (wn_none rfl) rfl (fun w => (rd_field rfl rfl fa180_0 _ rfl)) ?_
    refine GO_rd (v := .slice _ _ _) rfl rfl (wn_none rfl) rfl hpS4 (fun w hp => (rd_load rfl rfl Try.underlying90 rfl ((cell_of_cells (hp.get 1 rfl) _).trans rfl))) ?_
    refine GO_rd rfl rfl (wn_none rfl) rfl hpS4 (fun w hp => (rd_loadC rfl rfl Try.underlying97 rfl ts97 (hp.get 0 rfl) rfl)) ?_
    refine GO_of_GL rfl ?_
    refine GL_lit (L := clC c) (wn_none rfl) rfl rfl Try.underlying90 ts97 tz97 rfl (by kernel_rfl) rfl rfl hp ?_
    intro g2 w hp
    have hpS5 := (hp.sub (.cons _ (.cons_cons _ (.cons_cons _ (.cons _ (.cons _ .slnil))))))
    refine GL_nil ⟨fun _ => hpS5, ?_⟩
    refine GO_of_GL rfl ?_
    refine GL_append (i := 3) (wn_none rfl) rfl rfl rfl rfl Try.underlying90 ti97 rfl (by decide) hp rfl (Sl.row (hp.get 0 rfl)) (clC_one _) (by omega) (by omega) ?_
    intro v w hp
    obtain ⟨Av, cv, rfl⟩ := row_shape (hp.get 3 rfl)
    have hpS6 := (hp.sub (.cons _ (.cons_cons _ (.cons_cons _ (.cons _ (.cons _ .slnil))))))
    refine GL_nil ⟨fun _ => hpS6, ?_⟩
    refine GO_rdT rfl (wn_none rfl) rfl (fun w => (rd_nilCheck rfl rfl)) ?_
    refine GO_rdT rfl (wn_none rfl) rfl (fun w => (rd_field rfl rfl fa180_0 _ rfl)) ?_
    refine GO_of_GL rfl ?_
    refine GL_store (i := 2) (wn_none rfl) rfl rfl rfl rfl ts90 rfl rfl (one1 rfl) hp rfl (by first | exact Nat.le_of_ble_eq_true rfl | simp [bys_length, *]) rfl ?_
    intro w hp
    refine GL_nil ⟨fun h => absurd h (by decide), ?_⟩
    refine GO_nil ?_
    refine GW_seq ?_
    refine GW_region ?_
    refine GL_rd (v := .int _ _) (wn_none rfl) rfl (rd_assign rfl rfl) ?_
    refine GL_nil ?_
    refine GW_ret ?_
    have e := cla_yes hc hfi h8
    refine ⟨_, res1 Try.results67 (rv_tmp (v := .int _ _) rfl rfl), by rw [e.1], .slice Av (l.length + 1) cv, ?_⟩
    rw [e.2, mapE_snoc, flat_snoc, List.length_append, Nat.zero_add]
    have hp := ((((hp.front 4 rfl).front 4 rfl).front 4 rfl).take 3)
    exact hp
  | some i =>
   refine GW_drawnK 12 (.one 0 true (.one 1 true (.one 2 true (.one 3 true (.one 4 true (.one 5 true (.one 6 true (.one 7 true (.one 8 true (.one 9 true (.one 10 true (.one 11 true .nil)))))))))))) mixed (by kernel_rfl) hp (fun _ h => (h.sub (.cons_cons _ (.cons_cons _ (.cons _ (.cons_cons _ .slnil)))))) fun w hp => ?_
   have hpS7 := (hp.sub (.cons_cons _ (.cons_cons _ (.cons _ (.cons_cons _ .slnil)))))
   refine GO_rdT (v := .pointer (some ⟨_, _, none⟩)) rfl (wn_none rfl) rfl (fun w => (rd_move rfl rfl)) ?_
   refine GO_rdT rfl (wn_none rfl) rfl (fun w => (rd_nilCheck rfl rfl)) ?_
   refine GO_rdT rfl (wn_none rfl) rfl (fun w => (rd_field rfl rfl fa180_1 _ rfl)) ?_
   refine GO_rd rfl rfl (wn_none rfl) rfl hpS7 (fun w hp => (rd_load rfl rfl Try.underlying65 rfl ((cell_of_cells (hp.get 1 rfl) _).trans rfl))) ?_
   refine GO_rdT rfl (wn_none rfl) rfl (fun w => (rd_field rfl rfl fa97_0 _ rfl)) ?_
   refine GO_rd rfl rfl (wn_none rfl) rfl hpS7 (fun w hp => (rd_load rfl rfl Try.underlying9 rfl ((cell_of_cells (hp.get 0 rfl) _).trans rfl))) ?_
   refine GO_rd rfl rfl (wn_none rfl) rfl hpS7 (fun w hp => (rd_lookupC hfi rfl rfl rfl Try.underlying65 Try.underlying9 tz3 (hp.get 2 rfl))) ?_
   refine GO_rdT (v := .tuple _) rfl (wn_none rfl) rfl (fun w => (rd_move rfl rfl)) ?_
   refine GO_rdT (v := .int _ _) rfl (wn_none rfl) rfl (fun w => (rd_extract rfl rfl rfl)) ?_
   refine GO_rdT (v := .bool _) rfl (wn_none rfl) rfl (fun w => (rd_extract rfl rfl rfl)) ?_
   refine GO_rdT (v := .int _ _) rfl (wn_none rfl) rfl (fun w => (rd_assign rfl rfl)) ?_
   refine GO_rdT (v := .bool _) rfl (wn_none rfl) rfl (fun w => (rd_assign rfl rfl)) ?_
   refine GO_nil ?_
   refine GW_seq ?_
   refine GW_region ?_
   refine GL_rd (v := .bool _) (wn_none rfl) rfl (rd_move rfl rfl) ?_
   refine GL_nil ?_
   refine GW_true rfl ?_
   refine GW_seq ?_
   refine GW_region ?_
   refine GL_rd (v := .int _ _) (wn_none rfl) rfl (rd_assign rfl rfl) ?_
   refine GL_nil ?_
   refine GW_ret ?_
   have e := cla_twice hc hfi
   refine ⟨_, res1 Try.results67 (rv_tmp (v := .int _ _) rfl rfl), by rw [e.1], .slice A l.length c0, ?_⟩
   rw [e.2]
   have hp := ((((hp.front 3 rfl).front 3 rfl).front 3 rfl).take 3)
   exact hp

theorem cl_Longer (gq mq : Nat) (sv : Value) (m : Nat) (l : List Cls) (F0 : List Nat) (s : ByteArray) (p : Int) (w0 : World) (hm : m ≤ 1000000) (hp0 : Hp w0 F0 w0 [cells gq 180 [sv, .map (some mq)], .row 97 4 sv m (l.flatMap clC), .blk mq (.map ⟨mapE 0 l⟩ l.length)]) : Does Try.prog 68 #[.pointer (some ⟨gq, 0, none⟩), .string s, .int .i64 p] w0 fun v w' => v = .int .i64 (lonC l s p) ∧ ∃ sv2, Hp w0 F0 w' [cells gq 180 [sv2, .map (some mq)], .row 97 4 sv2 (lonL l s p).length ((lonL l s p).flatMap clC), .blk mq (.map ⟨mapE 0 (lonL l s p)⟩ (lonL l s p).length)] := by
 obtain ⟨A, c0, rfl⟩ := row_shape (hp0.get 1 rfl)
 have hlen := flat_len clC_len (by decide) (row_len (hp0.get 1 rfl))
 have hmle := (Sl.row (hp0.get 1 rfl)).le
 subst hlen
 refine does_of (l := [.pointer (some ⟨gq, 0, none⟩), .string s, .int .i64 p]) Try.func68 (by kernel_rfl) rfl Try.ntmps68 rfl rfl ?_
 have hp := hp0
 refine GW_seq ?_
 refine GW_region ?_
 refine GL_rd (v := .int _ _) (wn_none rfl) rfl (rd_assign rfl rfl) ?_
 refine GL_nil ?_
 refine GW_seq ?_
 cases hfi : findI l s with
 | none =>
  refine GW_region ?_
  refine GL_rd (v := .pointer (some ⟨_, _, none⟩)) (wn_none rfl) rfl (rd_move rfl rfl) ?_
  refine GL_rd (wn_none rfl) rfl (rd_nilCheck rfl rfl) ?_
  refine GL_rd (wn_none rfl) rfl (rd_field rfl rfl fa180_1 _ rfl) ?_
  refine GL_rd (wn_none rfl) rfl (rd_load rfl rfl Try.underlying65 rfl ((cell_of_cells (hp.get 0 rfl) _).trans rfl)) ?_
  refine GL_rd (v := .string _) (wn_none rfl) rfl (rd_move rfl rfl) ?_
  refine GL_rd (wn_none rfl) rfl (rd_lookupC hfi rfl rfl rfl Try.underlying65 Try.underlying9 tz3 (hp.get 2 rfl)) ?_
  refine GL_rd (v := .tuple _) (wn_none rfl) rfl (rd_move rfl rfl) ?_
  refine GL_rd (v := .int _ _) (wn_none rfl) rfl (rd_extract rfl rfl rfl) ?_
  refine GL_rd (v := .bool _) (wn_none rfl) rfl (rd_extract rfl rfl rfl) ?_
  refine GL_rd (v := .int _ _) (wn_none rfl) rfl (rd_assign rfl rfl) ?_
  refine GL_rd (v := .bool _) (wn_none rfl) rfl (rd_assign rfl rfl) ?_
  refine GL_nil ?_
  refine GW_seq ?_
  refine GW_block ?_
  refine GW_seq ?_
  refine GW_region ?_
  refine GL_rd (v := .bool _) (wn_none rfl) rfl (rd_move rfl rfl) ?_
  refine GL_rd (wn_none rfl) rfl (rd_not rfl rfl) ?_
  refine GL_rd (v := .bool _) (wn_none rfl) rfl (rd_assign rfl rfl) ?_
  refine GL_nil ?_
  refine GW_true rfl ?_
  refine GW_seq ?_
  refine GW_region ?_
  refine GL_rd (v := .int _ _) (wn_none rfl) rfl (rd_assign rfl rfl) ?_
  refine GL_nil ?_
  refine GW_ret ?_
  have e := lon_none p hfi
  refine ⟨_, res1 Try.results68 (rv_tmp (v := .int _ _) rfl rfl), by rw [e.1], .slice A l.length c0, ?_⟩
  rw [e.2]
  exact hp
 | some i =>
  have hil := (findI_lt hfi).1
  obtain ⟨gR, cap, hq, hcap⟩ := row_addr (hp.get 1 rfl) (by omega)
  injection hq with h1 h2 h3
  subst h1 h3
  refine GW_region ?_
  refine GL_rd (v := .pointer (some ⟨_, _, none⟩)) (wn_none rfl) rfl (rd_move rfl rfl) ?_
  refine GL_rd (wn_none rfl) rfl (rd_nilCheck rfl rfl) ?_
  refine GL_rd (wn_none rfl) rfl (rd_field rfl rfl fa180_1 _ rfl) ?_
  refine GL_rd (wn_none rfl) rfl (rd_load rfl rfl Try.underlying65 rfl ((cell_of_cells (hp.get 0 rfl) _).trans rfl)) ?_
  refine GL_rd (v := .string _) (wn_none rfl) rfl (rd_move rfl rfl) ?_
  refine GL_rd (wn_none rfl) rfl (rd_lookupC hfi rfl rfl rfl Try.underlying65 Try.underlying9 tz3 (hp.get 2 rfl)) ?_
  refine GL_rd (v := .tuple _) (wn_none rfl) rfl (rd_move rfl rfl) ?_
  refine GL_rd (v := .int _ _) (wn_none rfl) rfl (rd_extract rfl rfl rfl) ?_
  refine GL_rd (v := .bool _) (wn_none rfl) rfl (rd_extract rfl rfl rfl) ?_
  refine GL_rd (v := .int _ _) (wn_none rfl) rfl (rd_assign rfl rfl) ?_
  refine GL_rd (v := .bool _) (wn_none rfl) rfl (rd_assign rfl rfl) ?_
  refine GL_nil ?_
  refine GW_seq ?_
  refine GW_block ?_
  refine GW_seq ?_
  refine GW_region ?_
  refine GL_rd (v := .bool _) (wn_none rfl) rfl (rd_move rfl rfl) ?_
  refine GL_rd (wn_none rfl) rfl (rd_not rfl rfl) ?_
  refine GL_rd (v := .bool _) (wn_none rfl) rfl (rd_assign rfl rfl) ?_
  refine GL_nil ?_
  refine GW_false rfl ?_
  refine GW_seq ?_
  refine GW_region ?_
  refine GL_rd (v := .int _ _) (wn_none rfl) rfl (rd_move rfl rfl) ?_
  refine GL_rd (wn_none rfl) rfl (rd_bin rfl rfl rfl bo_lss) ?_
  refine GL_rd (v := .bool _) (wn_none rfl) rfl (rd_move rfl rfl) ?_
  refine GL_split (t := 24) (b := _) rfl ?_ ?_
  ·intro hb; (try simp only [decide_eq_true_eq, decide_eq_false_iff_not, Bool.not_eq_true', Bool.not_eq_false', Bool.not_eq_eq_eq_not, Bool.not_true, Bool.not_false, Int.not_lt, Int.not_le] at hb)
   have hpb : perB p = false := by simp only [perB, decide_eq_false_iff_not]; omega
   refine GL_pass (nw_off rfl rfl rfl rfl rfl) rfl ?_
   refine GL_pass (nw_off rfl rfl rfl rfl rfl) rfl ?_
   refine GL_rd (v := .bool _) (wn_none rfl) rfl (rd_pickT rfl rfl rfl) ?_
   refine GL_rd (v := .bool _) (wn_none rfl) rfl (rd_assign rfl rfl) ?_
   refine GL_nil ?_
   refine GW_true rfl ?_
   refine GW_seq ?_
   refine GW_region ?_
   refine GL_rd (v := .int _ _) (wn_none rfl) rfl (rd_assign rfl rfl) ?_
   refine GL_nil ?_
   refine GW_ret ?_
   have e := lon_range hfi hpb
   refine ⟨_, res1 Try.results68 (rv_tmp (v := .int _ _) rfl rfl), by rw [e.1], .slice (some ⟨gR, 0, none⟩) l.length c0, ?_⟩
   rw [e.2]
   exact hp
  ·intro hb; (try simp only [decide_eq_true_eq, decide_eq_false_iff_not, Bool.not_eq_true', Bool.not_eq_false', Bool.not_eq_eq_eq_not, Bool.not_true, Bool.not_false, Int.not_lt, Int.not_le] at hb)
   refine GL_rd (v := .int _ _) (wn_on rfl rfl rfl rfl) rfl (rd_move rfl rfl) ?_
   refine GL_rd (wn_on rfl rfl rfl rfl) rfl (rd_bin rfl rfl rfl bo_gtr) ?_
   refine GL_rd (v := .bool _) (wn_none rfl) rfl (rd_pickF rfl rfl rfl) ?_
   refine GL_rd (v := .bool _) (wn_none rfl) rfl (rd_assign rfl rfl) ?_
   refine GL_nil ?_
   refine GW_cond rfl (fun hb2 => ?_) (fun hb2 => ?_)
   ·(try simp only [decide_eq_true_eq, decide_eq_false_iff_not, Bool.not_eq_true', Bool.not_eq_false', Bool.not_eq_eq_eq_not, Bool.not_true, Bool.not_false, Int.not_lt, Int.not_le] at hb2)
    have hpb : perB p = false := by simp only [perB, decide_eq_false_iff_not]; omega
    refine GW_seq ?_
    refine GW_region ?_
    refine GL_rd (v := .int _ _) (wn_none rfl) rfl (rd_assign rfl rfl) ?_
    refine GL_nil ?_
    refine GW_ret ?_
    have e := lon_range hfi hpb
    refine ⟨_, res1 Try.results68 (rv_tmp (v := .int _ _) rfl rfl), by rw [e.1], .slice (some ⟨gR, 0, none⟩) l.length c0, ?_⟩
    rw [e.2]
    exact hp
   ·(try simp only [decide_eq_true_eq, decide_eq_false_iff_not, Bool.not_eq_true', Bool.not_eq_false', Bool.not_eq_eq_eq_not, Bool.not_true, Bool.not_false, Int.not_lt, Int.not_le] at hb2)
    have hpb : perB p = true := by simp only [perB, decide_eq_true_eq]; omega
    refine GW_seq ?_
    refine GW_region ?_
    refine GL_rd (v := .int _ _) (wn_none rfl) rfl (rd_move rfl rfl) ?_
    refine GL_rd (v := .pointer (some ⟨_, _, none⟩)) (wn_none rfl) rfl (rd_move rfl rfl) ?_
    refine GL_rd (wn_none rfl) rfl (rd_nilCheck rfl rfl) ?_
    refine GL_rd (wn_none rfl) rfl (rd_field rfl rfl fa180_0 _ rfl) ?_
    refine GL_rd (v := .slice _ _ _) (wn_none rfl) rfl (rd_load rfl rfl Try.underlying90 rfl ((cell_of_cells (hp.get 0 rfl) _).trans rfl)) ?_
    refine GL_rd (v := .int _ _) (wn_none rfl) rfl (rd_move rfl rfl) ?_
    refine GL_rd (wn_none rfl) rfl (rd_indexS (j := i) rfl rfl rfl Try.underlying90 ts97 rfl (by omega) _ rfl) ?_
    refine GL_rd (wn_none rfl) rfl (rd_field rfl rfl fa97_1 _ rfl) ?_
    refine GL_rd (wn_none rfl) rfl (rd_load rfl rfl Try.underlying3 rfl ((Sl.row (hp.get 1 rfl)).get _ _ (cl_cell (i := i) (j := 1) hil rfl (by decide)))) ?_
    refine GL_rd (wn_none rfl) rfl (rd_bin rfl rfl rfl bo_lss) ?_
    refine GL_rd (v := .bool _) (wn_none rfl) rfl (rd_assign rfl rfl) ?_
    refine GL_nil ?_
    refine GW_cond rfl (fun hb3 => ?_) (fun hb3 => ?_)
    ·(try simp only [decide_eq_true_eq, decide_eq_false_iff_not, Bool.not_eq_true', Bool.not_eq_false', Bool.not_eq_eq_eq_not, Bool.not_true, Bool.not_false, Int.not_lt, Int.not_le] at hb3)
     refine GW_seq ?_
     refine GW_region ?_
     refine GL_rd (v := .int _ _) (wn_none rfl) rfl (rd_assign rfl rfl) ?_
     refine GL_nil ?_
     refine GW_ret ?_
     have e := lon_kept hfi hpb (by omega)
     refine ⟨_, res1 Try.results68 (rv_tmp (v := .int _ _) rfl rfl), by rw [e.1], .slice (some ⟨gR, 0, none⟩) l.length c0, ?_⟩
     rw [e.2]
     exact hp
    ·(try simp only [decide_eq_true_eq, decide_eq_false_iff_not, Bool.not_eq_true', Bool.not_eq_false', Bool.not_eq_eq_eq_not, Bool.not_true, Bool.not_false, Int.not_lt, Int.not_le] at hb3)
     refine GW_skip ?_
     refine GW_seq ?_
     refine GW_region ?_
     refine GL_rd (v := .pointer (some ⟨_, _, none⟩)) (wn_none rfl) rfl (rd_move rfl rfl) ?_
     refine GL_rd (wn_none rfl) rfl (rd_nilCheck rfl rfl) ?_
     refine GL_rd (wn_none rfl) rfl (rd_field rfl rfl fa180_0 _ rfl) ?_
     refine GL_rd (v := .slice _ _ _) (wn_none rfl) rfl (rd_load rfl rfl Try.underlying90 rfl ((cell_of_cells (hp.get 0 rfl) _).trans rfl)) ?_
     refine GL_rd (v := .int _ _) (wn_none rfl) rfl (rd_move rfl rfl) ?_
     refine GL_rd (v := .int _ _) (wn_none rfl) rfl (rd_move rfl rfl) ?_
     refine GL_rd (wn_none rfl) rfl (rd_indexS (j := i) rfl rfl rfl Try.underlying90 ts97 rfl (by omega) _ rfl) ?_
     refine GL_rd (wn_none rfl) rfl (rd_field rfl rfl fa97_1 _ rfl) ?_
     refine GL_storeR (i := 1) (wn_none rfl) rfl rfl rfl rfl ts3 rfl rfl (one1 rfl) hp rfl rfl (by rw [flat_length clC_len]; omega) (setP_cells0 hil) ?_
     intro w hp
     refine GL_nil ?_
     refine GW_seq ?_
     refine GW_region ?_
     refine GL_rd (v := .int _ _) (wn_none rfl) rfl (rd_assign rfl rfl) ?_
     refine GL_nil ?_
     refine GW_ret ?_
     have e := lon_yes hfi hpb (by omega)
     refine ⟨_, res1 Try.results68 (rv_tmp (v := .int _ _) rfl rfl), by rw [e.1], .slice (some ⟨gR, 0, none⟩) l.length c0, ?_⟩
     rw [mapE_names 0 (lon_names l s p), lonL_length, e.2]
     exact hp

theorem cl_Copy (gq mq : Nat) (sv : Value) (m : Nat) (l : List Cls) (w0 : World) (hA : (cells gq 180 [sv, .map (some mq)]).at_ w0) (hR : Sl w0 sv 4 m (l.flatMap clC)) (hM : (Res.blk mq (.map ⟨mapE 0 l⟩ l.length)).at_ w0) (hok : ClsOk l) (hnm : ∀ i, i < l.length → (clAt l i).nm.size ≤ 140737488351232) : Does Try.prog 58 #[.pointer (some ⟨gq, 0, none⟩)] w0 fun v w' => ∃ g2 m2 sv2, v = .pointer (some ⟨g2, 0, none⟩) ∧ Hp w0 [] w' [cells g2 180 [sv2, .map (some m2)], .row 97 4 sv2 m (l.flatMap clC), .blk m2 (.map ⟨mapE 0 l⟩ l.length)] := by
 obtain ⟨A, c, rfl⟩ := sl_shape hR
 have hlen := flat_len clC_len (by decide) hR.len
 have hmle := hR.le
 have h8 := hok.1
 refine does_of (l := [.pointer (some ⟨gq, 0, none⟩)]) Try.func58 (by kernel_rfl) rfl Try.ntmps58 rfl rfl ?_
 have hp := Hp.refl w0 []
 refine GW_seq ?_
 refine GW_region ?_
 refine GL_rd (v := _) (wn_none rfl) rfl (rd_assign rfl rfl) ?_
 refine GL_nil ?_
 refine GW_seq ?_
 refine GW_region ?_
 refine GL_call (wn_none rfl) rfl rfl (cl_New _) rfl ?_
 rintro _ w ⟨g9, m9, rfl, hk⟩
 have hp := hp.comp hk
 have hp := hp.nilRow 97 4
 refine GL_rd (v := .pointer (some ⟨_, _, none⟩)) (wn_none rfl) rfl (rd_assign rfl rfl) ?_
 refine GL_nil ?_
 refine GW_seq ?_
 refine GW_seq ?_
 refine GW_region ?_
 refine GL_rd (v := .pointer (some ⟨_, _, none⟩)) (wn_none rfl) rfl (rd_move rfl rfl) ?_
 refine GL_rd (wn_none rfl) rfl (rd_nilCheck rfl rfl) ?_
 refine GL_rd (wn_none rfl) rfl (rd_field rfl rfl fa180_0 _ rfl) ?_
 refine GL_rd (v := .slice _ _ _) (wn_none rfl) rfl (rd_load rfl rfl Try.underlying90 rfl ((cell_of_cells (cells.keep hA hp.mod) _).trans rfl)) ?_
 refine GL_rd (wn_none rfl) rfl (rd_len rfl rfl Try.underlying90) ?_
 refine GL_rd (v := .int _ _) (wn_none rfl) rfl (rd_move rfl rfl) ?_
 refine GL_nil ?_
 refine GW_block ?_
 refine GW_loop ?_
 refine Lp_ind (α := Nat × Value) (fun a_0 f_0 w' => match a_0 with | (i, sv2) => ∃ fz, f_0 = (upd (upd (upd (upd fz 3 (.pointer (some ⟨g9, 0, none⟩))) 10 (.slice A m c)) 11 (.int .i64 (m : Int))) 12 (.int .i64 (i : Int))) ∧ Hp w0 [] w' [cells g9 180 [sv2, .map (some m9)], .row 97 4 sv2 (l.take i).length ((l.take i).flatMap clC), .blk m9 (.map ⟨mapE 0 (l.take i)⟩ (l.take i).length)] ∧ (i ≤ m)) (fun a_0 => match a_0 with | (i, sv2) => m - i) ?_ (0, .slice none 0 0) _ _ ?_
 ·rintro ⟨i, sv2⟩ f wz ⟨fz, rfl, hp, hi0⟩ ihL0
  refine Lp_round ?_
  refine GW_seq ?_
  refine GW_region ?_
  refine GL_rd (wn_none rfl) rfl (rd_bin rfl rfl rfl bo_lss) ?_
  refine GL_nil ?_
  refine GW_seq ?_
  refine GW_cond rfl (fun hb => ?_) (fun hb => ?_)
  ·(try simp only [decide_eq_true_eq, decide_eq_false_iff_not, Bool.not_eq_true', Bool.not_eq_false', Bool.not_eq_eq_eq_not, Bool.not_true, Bool.not_false, Int.not_lt, Int.not_le] at hb)
   obtain ⟨gB, bB, rfl⟩ := hR.addr (by rw [flat_length clC_len]; omega)
   refine GW_skip ?_
   refine GW_seq ?_
   refine GW_block ?_
   refine GW_seq ?_
   refine GW_region ?_
   refine GL_rd (wn_none rfl) rfl (rd_indexS (j := i) rfl rfl rfl Try.underlying90 ts97 rfl (by omega) _ rfl) ?_
   refine GL_rd (wn_none rfl) rfl (rd_loadN (L := clC (clAt l i)) rfl rfl Try.underlying97 rfl ts97 rfl (fun j u hj => (hR.keep hp.mod).elem clC_len i j (clC_lt hj) (clAt_some (by omega)) hj)) ?_
   refine GL_alloc (wn_none rfl) rfl rfl tz97 rfl hp ?_
   intro g w hp
   refine GL_store (i := 0) (wn_none rfl) rfl rfl rfl rfl ts97 rfl rfl (clC_one _) hp rfl (by decide) rfl ?_
   intro w hp
   refine GL_nil ?_
   refine GW_region ?_
   refine GL_rd (v := .pointer (some ⟨_, _, none⟩)) (wn_none rfl) rfl (rd_move rfl rfl) ?_
   refine GL_rd (wn_none rfl) rfl (rd_loadC rfl rfl Try.underlying97 rfl ts97 (hp.get 0 rfl) rfl) ?_
   have hp := (((hp.front 3 rfl).front 3 rfl).front 3 rfl)
   refine GL_call (wn_none rfl) rfl rfl (cl_Add g9 m9 _ _ (l.take i) _ (clAt l i) _ (by rw [List.length_take]; omega) (hnm i (by omega)) (hp.ownsT 3)) rfl ?_
   rintro _ w ⟨rfl, sv3, hk⟩
   have hp := hp.turnsT 3 hk
   have hst := hok.step (i := i) (by omega)
   rw [hst.2] at hp
   refine GL_nil ?_
   refine GW_region ?_
   refine GL_rd (wn_none rfl) rfl (rd_bin rfl rfl rfl (bo_add64 (by omega))) ?_
   refine GL_rd (v := .int _ _) (wn_none rfl) rfl (rd_move rfl rfl) ?_
   refine GL_nil ?_
   have hp := ((((hp.front 2 rfl).front 2 rfl).front 2 rfl).take 3)
   exact ihL0 (i + 1, sv3) _ _ (by simp only []; omega) ⟨_, slots4 rfl rfl rfl rfl, hp, by omega⟩
  ·(try simp only [decide_eq_true_eq, decide_eq_false_iff_not, Bool.not_eq_true', Bool.not_eq_false', Bool.not_eq_eq_eq_not, Bool.not_true, Bool.not_false, Int.not_lt, Int.not_le] at hb)
   refine GW_exit ?_
   refine GW_seq ?_
   refine GW_region ?_
   refine GL_rd (v := .pointer (some ⟨_, _, none⟩)) (wn_none rfl) rfl (rd_move rfl rfl) ?_
   refine GL_rd (v := .pointer (some ⟨_, _, none⟩)) (wn_none rfl) rfl (rd_assign rfl rfl) ?_
   refine GL_nil ?_
   refine GW_ret ?_
   obtain rfl : m = i := by omega
   rw [List.take_of_length_le (by omega), hlen] at hp
   refine ⟨_, res1 Try.results58 (rv_tmp (v := .pointer (some ⟨_, _, none⟩)) rfl rfl), g9, m9, sv2, rfl, ?_⟩
   rw [hlen]
   exact hp
 ·have hp := ((((hp.front 2 rfl).front 1 rfl).front 2 rfl).take 3)
  refine ⟨_, slots4 rfl rfl rfl rfl, hp, Nat.zero_le _⟩

theorem ref_clFind (sv : Value) (m : Nat) (l : List Cls) (s : ByteArray) (w0 : World) (hR : Sl w0 sv 4 m (l.flatMap clC)) (hm : m ≤ 1000000) : Does Try.prog 60 #[sv, .string s] w0 fun v w' => v = .int .i64 (findV l s) ∧ Hp w0 [] w' [] := by
 obtain ⟨A, c0, rfl⟩ := sl_shape hR
 have hlen := flat_len clC_len (by decide) hR.len
 subst hlen
 refine does_of (l := [.slice A l.length c0, .string s]) Try.func60 (by kernel_rfl) rfl Try.ntmps60 rfl rfl ?_
 have hp := Hp.refl w0 []
 refine GW_seq ?_
 refine GW_region ?_
 refine GL_rd (v := .int _ _) (wn_none rfl) rfl (rd_assign rfl rfl) ?_
 refine GL_nil ?_
 refine GW_seq ?_
 refine GW_seq ?_
 refine GW_region ?_
 refine GL_rd (v := .int _ _) (wn_none rfl) rfl (rd_assign rfl rfl) ?_
 refine GL_nil ?_
 refine GW_block ?_
 refine GW_loop ?_
 refine Lp_ind (α := Nat) (fun a_0 f_0 w' => match a_0 with | i => ∃ fz, f_0 = (upd (upd (upd fz 0 (.slice A l.length c0)) 1 (.string s)) 5 (.int .i64 (i : Int))) ∧ Hp w0 [] w' [] ∧ (i ≤ l.length) ∧ (∀ j, j < i → ¬ (clAt l j).nm = s)) (fun a_0 => match a_0 with | i => l.length - i) ?_ 0 _ _ ?_
 ·rintro i f wz ⟨fz, rfl, hp, hi0, hall⟩ ihL0
  refine Lp_round ?_
  refine GW_seq ?_
  refine GW_seq ?_
  refine GW_region ?_
  refine GL_rd (v := .int _ _) (wn_none rfl) rfl (rd_move rfl rfl) ?_
  refine GL_rd (v := .slice _ _ _) (wn_none rfl) rfl (rd_move rfl rfl) ?_
  refine GL_rd (wn_none rfl) rfl (rd_len rfl rfl Try.underlying90) ?_
  refine GL_rd (wn_none rfl) rfl (rd_bin rfl rfl rfl bo_lss) ?_
  refine GL_nil ?_
  refine GW_cond rfl (fun hb => ?_) (fun hb => ?_)
  ·(try simp only [decide_eq_true_eq, decide_eq_false_iff_not, Bool.not_eq_true', Bool.not_eq_false', Bool.not_eq_eq_eq_not, Bool.not_true, Bool.not_false, Int.not_lt, Int.not_le] at hb)
   obtain ⟨gB, bB, rfl⟩ := hR.addr (by rw [flat_length clC_len]; omega)
   refine GW_skip ?_
   refine GW_seq ?_
   refine GW_block ?_
   refine GW_seq ?_
   refine GW_region ?_
   refine GL_rd (v := .slice _ _ _) (wn_none rfl) rfl (rd_move rfl rfl) ?_
   refine GL_rd (v := .int _ _) (wn_none rfl) rfl (rd_move rfl rfl) ?_
   refine GL_rd (wn_none rfl) rfl (rd_indexS (j := i) rfl rfl rfl Try.underlying90 ts97 rfl (by omega) _ rfl) ?_
   refine GL_rd (wn_none rfl) rfl (rd_field rfl rfl fa97_0 _ rfl) ?_
   refine GL_rd (wn_none rfl) rfl (rd_load rfl rfl Try.underlying9 rfl ((hR.keep hp.mod).get _ _ (cl_cell (i := i) (j := 0) (by omega) rfl (by decide)))) ?_
   refine GL_rd (v := .string _) (wn_none rfl) rfl (rd_move rfl rfl) ?_
   refine GL_rd (wn_none rfl) rfl (rd_bin rfl rfl rfl bo_seql) ?_
   refine GL_nil ?_
   refine GW_cond rfl (fun hb2 => ?_) (fun hb2 => ?_)
   ·(try simp only [decide_eq_true_eq, decide_eq_false_iff_not, Bool.not_eq_true', Bool.not_eq_false', Bool.not_eq_eq_eq_not, Bool.not_true, Bool.not_false, Int.not_lt, Int.not_le] at hb2)
    have hf := findI_at (by omega) hall hb2
    refine GW_seq ?_
    refine GW_region ?_
    refine GL_rd (v := .int _ _) (wn_none rfl) rfl (rd_move rfl rfl) ?_
    refine GL_rd (v := .int _ _) (wn_none rfl) rfl (rd_assign rfl rfl) ?_
    refine GL_nil ?_
    refine GW_ret ?_
    exact ⟨_, res1 Try.results60 (rv_tmp (v := .int _ _) rfl rfl), by rw [findV, hf], hp⟩
   ·(try simp only [decide_eq_true_eq, decide_eq_false_iff_not, Bool.not_eq_true', Bool.not_eq_false', Bool.not_eq_eq_eq_not, Bool.not_true, Bool.not_false, Int.not_lt, Int.not_le] at hb2)
    have hne := hb2
    refine GW_skip ?_
    refine GW_region ?_
    refine GL_rd (v := .int _ _) (wn_none rfl) rfl (rd_move rfl rfl) ?_
    refine GL_rd (wn_none rfl) rfl (rd_bin rfl rfl rfl (bo_add64 (by omega))) ?_
    refine GL_rd (v := .int _ _) (wn_none rfl) rfl (rd_assign rfl rfl) ?_
    refine GL_nil ?_
    exact ihL0 (i + 1) _ _ (by simp only []; omega) ⟨_, slots3 rfl rfl rfl, hp, by omega, fun j hj => by by_cases e : j = i; subst e; exact hne; exact hall j (by omega)⟩
  ·(try simp only [decide_eq_true_eq, decide_eq_false_iff_not, Bool.not_eq_true', Bool.not_eq_false', Bool.not_eq_eq_eq_not, Bool.not_true, Bool.not_false, Int.not_lt, Int.not_le] at hb)
   have hf := findI_none (l := l) (s := s) (fun j hj => hall j (by omega))
   refine GW_exit ?_
   refine GW_seq ?_
   refine GW_region ?_
   refine GL_rd (v := .int _ _) (wn_none rfl) rfl (rd_assign rfl rfl) ?_
   refine GL_nil ?_
   refine GW_ret ?_
   exact ⟨_, res1 Try.results60 (rv_tmp (v := .int _ _) rfl rfl), by rw [findV, hf], hp⟩
 ·refine ⟨_, slots3 rfl rfl rfl, hp, Nat.zero_le _, fun j hj => absurd hj (Nat.not_lt_zero _)⟩

theorem ref_clSame (sv tv : Value) (m k : Nat) (l a : List Cls) (w0 : World) (hR : Sl w0 sv 4 m (l.flatMap clC)) (hT : Sl w0 tv 4 k (a.flatMap clC)) (he : l = a) : Does Try.prog 63 #[sv, tv] w0 fun v w' => v = .bool true ∧ Hp w0 [] w' [] := by
 subst he
 obtain ⟨A, c0, rfl⟩ := sl_shape hR
 obtain ⟨B, d0, rfl⟩ := sl_shape hT
 have hlen := flat_len clC_len (by decide) hR.len
 have hlek := flat_len clC_len (by decide) hT.len
 have hmle := hR.le
 refine does_of (l := [.slice A m c0, .slice B k d0]) Try.func63 (by kernel_rfl) rfl Try.ntmps63 rfl rfl ?_
 have hp := Hp.refl w0 []
 refine GW_seq ?_
 refine GW_region ?_
 refine GL_rd (v := .bool _) (wn_none rfl) rfl (rd_assign rfl rfl) ?_
 refine GL_nil ?_
 refine GW_seq ?_
 refine GW_seq ?_
 refine GW_region ?_
 refine GL_rd (v := .slice _ _ _) (wn_none rfl) rfl (rd_move rfl rfl) ?_
 refine GL_rd (wn_none rfl) rfl (rd_len rfl rfl Try.underlying90) ?_
 refine GL_rd (v := .slice _ _ _) (wn_none rfl) rfl (rd_move rfl rfl) ?_
 refine GL_rd (wn_none rfl) rfl (rd_len rfl rfl Try.underlying90) ?_
 refine GL_rd (wn_none rfl) rfl (rd_bin rfl rfl rfl bo_neq) ?_
 refine GL_nil ?_
 refine GW_cond rfl (fun hb => ?_) (fun hb => ?_)
 ·(try simp only [decide_eq_true_eq, decide_eq_false_iff_not, Bool.not_eq_true', Bool.not_eq_false', Bool.not_eq_eq_eq_not, Bool.not_true, Bool.not_false, Int.not_lt, Int.not_le] at hb)
  exact absurd hb (by omega)
 ·(try simp only [decide_eq_true_eq, decide_eq_false_iff_not, Bool.not_eq_true', Bool.not_eq_false', Bool.not_eq_eq_eq_not, Bool.not_true, Bool.not_false, Int.not_lt, Int.not_le] at hb)
  refine GW_skip ?_
  refine GW_seq ?_
  refine GW_seq ?_
  refine GW_region ?_
  refine GL_rd (v := .int _ _) (wn_none rfl) rfl (rd_assign rfl rfl) ?_
  refine GL_nil ?_
  refine GW_block ?_
  refine GW_loop ?_
  refine Lp_ind (α := Nat) (fun a_0 f_0 w' => match a_0 with | i => ∃ fz, f_0 = (upd (upd (upd fz 0 (.slice A m c0)) 1 (.slice B k d0)) 5 (.int .i64 (i : Int))) ∧ Hp w0 [] w' [] ∧ (i ≤ m)) (fun a_0 => match a_0 with | i => m - i) ?_ 0 _ _ ?_
  ·rintro i f wz ⟨fz, rfl, hp, hi0⟩ ihL0
   refine Lp_round ?_
   refine GW_seq ?_
   refine GW_seq ?_
   refine GW_region ?_
   refine GL_rd (v := .int _ _) (wn_none rfl) rfl (rd_move rfl rfl) ?_
   refine GL_rd (v := .slice _ _ _) (wn_none rfl) rfl (rd_move rfl rfl) ?_
   refine GL_rd (wn_none rfl) rfl (rd_len rfl rfl Try.underlying90) ?_
   refine GL_rd (wn_none rfl) rfl (rd_bin rfl rfl rfl bo_lss) ?_
   refine GL_nil ?_
   refine GW_cond rfl (fun hb2 => ?_) (fun hb2 => ?_)
   ·(try simp only [decide_eq_true_eq, decide_eq_false_iff_not, Bool.not_eq_true', Bool.not_eq_false', Bool.not_eq_eq_eq_not, Bool.not_true, Bool.not_false, Int.not_lt, Int.not_le] at hb2)
    obtain ⟨gB, bB, rfl⟩ := hR.addr (by rw [flat_length clC_len]; omega)
    obtain ⟨gC, bC, rfl⟩ := hT.addr (by rw [flat_length clC_len]; omega)
    refine GW_skip ?_
    refine GW_seq ?_
    refine GW_block ?_
    refine GW_seq ?_
    refine GW_drawnK 9 (.one 0 true (.one 1 true (.one 2 true (.one 3 true (.one 4 true (.one 5 true (.one 6 true (.one 7 true (.one 8 true .nil))))))))) mixed (by kernel_rfl) hp (fun _ h => h) fun w hp => ?_
    have hpS := hp
    refine GO_rdT (v := .slice _ _ _) rfl (wn_none rfl) rfl (fun w => (rd_move rfl rfl)) ?_
    refine GO_rdT (v := .int _ _) rfl (wn_none rfl) rfl (fun w => (rd_move rfl rfl)) ?_
    refine GO_rdT rfl (wn_none rfl) rfl (fun w => (rd_indexS (j := i) rfl rfl rfl Try.underlying90 ts97 rfl (by omega) _ rfl)) ?_
    refine GO_rd rfl rfl (wn_none rfl) rfl hpS (fun w hp => (rd_loadN (L := clC (clAt l i)) rfl rfl Try.underlying97 rfl ts97 rfl (fun j u hj => (hR.keep hp.mod).elem clC_len i j (clC_lt hj) (clAt_some (by omega)) hj))) ?_
    refine GO_rdT (v := .slice _ _ _) rfl (wn_none rfl) rfl (fun w => (rd_move rfl rfl)) ?_
    refine GO_rdT (v := .int _ _) rfl (wn_none rfl) rfl (fun w => (rd_move rfl rfl)) ?_
    refine GO_rdT rfl (wn_none rfl) rfl (fun w => (rd_indexS (j := i) rfl rfl rfl Try.underlying90 ts97 rfl (by omega) _ rfl)) ?_
    refine GO_rd rfl rfl (wn_none rfl) rfl hpS (fun w hp => (rd_loadN (L := clC (clAt l i)) rfl rfl Try.underlying97 rfl ts97 rfl (fun j u hj => (hT.keep hp.mod).elem clC_len i j (clC_lt hj) (clAt_some (by omega)) hj))) ?_
    refine GO_rd rfl rfl (wn_none rfl) rfl hpS (fun w hp => (rd_bin rfl rfl rfl (bo_cls clsAt).2)) ?_
    refine GO_nil ?_
    refine GW_cond rfl (fun hb3 => ?_) (fun hb3 => ?_)
    ·(try simp only [decide_eq_true_eq, decide_eq_false_iff_not, Bool.not_eq_true', Bool.not_eq_false', Bool.not_eq_eq_eq_not, Bool.not_true, Bool.not_false, Int.not_lt, Int.not_le] at hb3)
     exact absurd hb3 (by rw [clsEq_iff.2 rfl]; decide)
    ·(try simp only [decide_eq_true_eq, decide_eq_false_iff_not, Bool.not_eq_true', Bool.not_eq_false', Bool.not_eq_eq_eq_not, Bool.not_true, Bool.not_false, Int.not_lt, Int.not_le] at hb3)
     refine GW_skip ?_
     refine GW_region ?_
     refine GL_rd (v := .int _ _) (wn_none rfl) rfl (rd_move rfl rfl) ?_
     refine GL_rd (wn_none rfl) rfl (rd_bin rfl rfl rfl (bo_add64 (by omega))) ?_
     refine GL_rd (v := .int _ _) (wn_none rfl) rfl (rd_assign rfl rfl) ?_
     refine GL_nil ?_
     exact ihL0 (i + 1) _ _ (by simp only []; omega) ⟨_, slots3 rfl rfl rfl, hp, by omega⟩
   ·(try simp only [decide_eq_true_eq, decide_eq_false_iff_not, Bool.not_eq_true', Bool.not_eq_false', Bool.not_eq_eq_eq_not, Bool.not_true, Bool.not_false, Int.not_lt, Int.not_le] at hb2)
    refine GW_exit ?_
    refine GW_seq ?_
    refine GW_region ?_
    refine GL_rd (v := .bool _) (wn_none rfl) rfl (rd_assign rfl rfl) ?_
    refine GL_nil ?_
    refine GW_ret ?_
    exact ⟨_, res1 Try.results63 (rv_tmp (v := .bool _) rfl rfl), rfl, hp.mods⟩
  ·refine ⟨_, slots3 rfl rfl rfl, hp, Nat.zero_le _⟩

theorem ref_clAdd (sv : Value) (m : Nat) (l : List Cls) (c : Cls) (w0 : World) (hs : c.nm.size ≤ 140737488351232) (hR : Sl w0 sv 4 m (l.flatMap clC)) (hm : m ≤ 1000000) : Does Try.prog 124 #[sv, .agg ⟨clC c⟩] w0 fun v w' => (∃ v2, v = .tuple #[v2, .int .i64 (claC l c)] ∧ ((¬ (claC l c) = 0 ∧ v2 = sv ∧ Hp w0 [] w' []) ∨ ((claC l c) = 0 ∧ Hp w0 [] w' [.row 97 4 v2 (l ++ [c]).length ((l ++ [c]).flatMap clC)]))) := by
 obtain ⟨A, c0, rfl⟩ := sl_shape hR
 have hlen := flat_len clC_len (by decide) hR.len
 subst hlen
 refine does_of (l := [.slice A l.length c0, .agg ⟨clC c⟩]) Try.func124 (by kernel_rfl) rfl Try.ntmps124 rfl rfl ?_
 have hp := Hp.refl w0 []
 refine GW_seq ?_
 refine GW_region ?_
 refine GL_box (wn_none rfl) rfl rfl rfl rfl hp ?_
 intro g w hp
 refine GL_rd (v := .slice _ _ _) (wn_none rfl) rfl (rd_assign rfl rfl) ?_
 refine GL_rd (v := .int _ _) (wn_none rfl) rfl (rd_assign rfl rfl) ?_
 refine GL_nil ?_
 refine GW_seq ?_
 refine GW_seq ?_
 refine GW_region ?_
 refine GL_rd (wn_none rfl) rfl (rd_loadC rfl rfl Try.underlying97 rfl ts97 (hp.get 0 rfl) rfl) ?_
 refine GL_call (wn_none rfl) rfl rfl (ref_clCheck c _ hs) rfl ?_
 rintro _ w ⟨rfl, hk⟩
 have hp := hp.comp hk
 refine GL_rd (v := .int _ _) (wn_none rfl) rfl (rd_assign rfl rfl) ?_
 refine GL_nil ?_
 refine GW_seq ?_
 refine GW_region ?_
 refine GL_rd (v := .int _ _) (wn_none rfl) rfl (rd_move rfl rfl) ?_
 refine GL_rd (wn_none rfl) rfl (rd_bin rfl rfl rfl bo_neq) ?_
 refine GL_nil ?_
 refine GW_cond rfl (fun hb => ?_) (fun hb => ?_)
 ·(try simp only [decide_eq_true_eq, decide_eq_false_iff_not, Bool.not_eq_true', Bool.not_eq_false', Bool.not_eq_eq_eq_not, Bool.not_true, Bool.not_false, Int.not_lt, Int.not_le] at hb)
  have hc : ¬ clsC c = 0 := hb
  refine GW_seq ?_
  refine GW_region ?_
  refine GL_rd (v := .slice _ _ _) (wn_none rfl) rfl (rd_move rfl rfl) ?_
  refine GL_rd (v := .int _ _) (wn_none rfl) rfl (rd_move rfl rfl) ?_
  refine GL_rd (v := .slice _ _ _) (wn_none rfl) rfl (rd_assign rfl rfl) ?_
  refine GL_rd (v := .int _ _) (wn_none rfl) rfl (rd_assign rfl rfl) ?_
  refine GL_nil ?_
  refine GW_ret ?_
  have e := cla_no (l := l) hc
  exact ⟨_, res2 Try.results124 (rv_tmp (v := .slice _ _ _) rfl rfl) (rv_tmp (v := .int _ _) rfl rfl), _, by rw [e.1], .inl ⟨by rw [e.1]; first | exact hc | decide, rfl, hp.mods⟩⟩
 ·(try simp only [decide_eq_true_eq, decide_eq_false_iff_not, Bool.not_eq_true', Bool.not_eq_false', Bool.not_eq_eq_eq_not, Bool.not_true, Bool.not_false, Int.not_lt, Int.not_le] at hb)
  have hc : clsC c = 0 := hb
  refine GW_skip ?_
  refine GW_seq ?_
  refine GW_seq ?_
  refine GW_region ?_
  refine GL_rd (v := .slice _ _ _) (wn_none rfl) rfl (rd_move rfl rfl) ?_
  refine GL_rd (wn_none rfl) rfl (rd_field rfl rfl fa97_0 _ rfl) ?_
  refine GL_rd (wn_none rfl) rfl (rd_load rfl rfl Try.underlying9 rfl ((cell_of_cells (hp.get 0 rfl) _).trans rfl)) ?_
  refine GL_call (wn_none rfl) rfl rfl (ref_clFind _ _ l c.nm _ (hR.keep hp.mod) hm) rfl ?_
  rintro _ w ⟨rfl, hk⟩
  have hp := hp.comp hk
  refine GL_rd (wn_none rfl) rfl (rd_bin rfl rfl rfl bo_geq) ?_
  refine GL_nil ?_
  refine GW_cond rfl (fun hb2 => ?_) (fun hb2 => ?_)
  ·(try simp only [decide_eq_true_eq, decide_eq_false_iff_not, Bool.not_eq_true', Bool.not_eq_false', Bool.not_eq_eq_eq_not, Bool.not_true, Bool.not_false, Int.not_lt, Int.not_le] at hb2)
   obtain ⟨i, hfi⟩ : ∃ i, findI l c.nm = some i := by cases hq : findI l c.nm with | some i => exact ⟨i, rfl⟩ | none => exact absurd hb2 (by rw [findV, hq]; decide)
   refine GW_seq ?_
   refine GW_region ?_
   refine GL_rd (v := .slice _ _ _) (wn_none rfl) rfl (rd_move rfl rfl) ?_
   refine GL_rd (v := .slice _ _ _) (wn_none rfl) rfl (rd_assign rfl rfl) ?_
   refine GL_rd (v := .int _ _) (wn_none rfl) rfl (rd_assign rfl rfl) ?_
   refine GL_nil ?_
   refine GW_ret ?_
   have e := cla_twice hc hfi
   exact ⟨_, res2 Try.results124 (rv_tmp (v := .slice _ _ _) rfl rfl) (rv_tmp (v := .int _ _) rfl rfl), _, by rw [e.1], .inl ⟨by rw [e.1]; first | exact hc | decide, rfl, hp.mods⟩⟩
  ·(try simp only [decide_eq_true_eq, decide_eq_false_iff_not, Bool.not_eq_true', Bool.not_eq_false', Bool.not_eq_eq_eq_not, Bool.not_true, Bool.not_false, Int.not_lt, Int.not_le] at hb2)
   have hfi : findI l c.nm = none := by cases hq : findI l c.nm with | none => rfl | some i => exact absurd hb2 (by rw [findV, hq]; simp)
   refine GW_skip ?_
   refine GW_seq ?_
   refine GW_seq ?_
   refine GW_region ?_
   refine GL_rd (v := .slice _ _ _) (wn_none rfl) rfl (rd_move rfl rfl) ?_
   refine GL_rd (wn_none rfl) rfl (rd_len rfl rfl Try.underlying90) ?_
   refine GL_rd (wn_none rfl) rfl (rd_bin rfl rfl rfl bo_geq) ?_
   refine GL_nil ?_
   refine GW_cond rfl (fun hb3 => ?_) (fun hb3 => ?_)
   ·(try simp only [decide_eq_true_eq, decide_eq_false_iff_not, Bool.not_eq_true', Bool.not_eq_false', Bool.not_eq_eq_eq_not, Bool.not_true, Bool.not_false, Int.not_lt, Int.not_le] at hb3)
    have h8 : 8 ≤ l.length := by have := hb3; omega
    refine GW_seq ?_
    refine GW_region ?_
    refine GL_rd (v := .slice _ _ _) (wn_none rfl) rfl (rd_move rfl rfl) ?_
    refine GL_rd (v := .slice _ _ _) (wn_none rfl) rfl (rd_assign rfl rfl) ?_
    refine GL_rd (v := .int _ _) (wn_none rfl) rfl (rd_assign rfl rfl) ?_
    refine GL_nil ?_
    refine GW_ret ?_
    have e := cla_full hc hfi h8
    exact ⟨_, res2 Try.results124 (rv_tmp (v := .slice _ _ _) rfl rfl) (rv_tmp (v := .int _ _) rfl rfl), _, by rw [e.1], .inl ⟨by rw [e.1]; first | exact hc | decide, rfl, hp.mods⟩⟩
   ·(try simp only [decide_eq_true_eq, decide_eq_false_iff_not, Bool.not_eq_true', Bool.not_eq_false', Bool.not_eq_eq_eq_not, Bool.not_true, Bool.not_false, Int.not_lt, Int.not_le] at hb3)
    have h8 : ¬ 8 ≤ l.length := by have := hb3; omega
    refine GW_skip ?_
    refine GW_seq ?_
    refine GW_region ?_
    refine GL_rd (v := .slice _ _ _) (wn_none rfl) rfl (rd_assign rfl rfl) ?_
    refine GL_nil ?_
    refine GW_seq ?_
    refine GW_region ?_
    refine GL_rd (v := .slice _ _ _) (wn_none rfl) rfl (rd_move rfl rfl) ?_
    refine GL_rd (v := .slice _ _ _) (wn_none rfl) rfl (rd_move rfl rfl) ?_
    have hp := hp.nilRow 97 4
    refine GL_append (i := 0) (wn_none rfl) rfl rfl rfl rfl Try.underlying90 ti97 rfl (by decide) hp rfl (hR.keep hp.mod) (flat_one clC_one _) (by omega) (by omega) ?_
    intro v w hp
    refine GL_rd (v := v) (wn_none rfl) rfl (rd_assign rfl rfl) ?_
    refine GL_nil ?_
    refine GW_seq ?_
    refine GW_region ?_
    refine GL_rd (v := v) (wn_none rfl) rfl (rd_move rfl rfl) ?_
    refine GL_rd (wn_none rfl) rfl (rd_loadC rfl rfl Try.underlying97 rfl ts97 (hp.get 1 rfl) rfl) ?_
    refine GL_lit (L := clC c) (wn_none rfl) rfl rfl Try.underlying90 ts97 tz97 rfl (by kernel_rfl) rfl rfl hp ?_
    intro g2 w hp
    refine GL_append (i := 1) (wn_none rfl) rfl rfl rfl rfl Try.underlying90 ti97 rfl (by decide) hp rfl (Sl.row (hp.get 0 rfl)) (clC_one _) (by omega) (by omega) ?_
    intro v2 w hp
    refine GL_rd (v := v2) (wn_none rfl) rfl (rd_assign rfl rfl) ?_
    refine GL_rd (v := .int _ _) (wn_none rfl) rfl (rd_assign rfl rfl) ?_
    refine GL_nil ?_
    refine GW_ret ?_
    have e := cla_yes hc hfi h8
    have hp := ((hp.front 1 rfl).take 1)
    refine ⟨_, res2 Try.results124 (rv_tmp (v := v2) rfl rfl) (rv_tmp (v := .int _ _) rfl rfl), _, by rw [e.1], .inr ⟨by rw [e.1], ?_⟩⟩
    rw [flat_snoc, List.length_append]
    exact hp.cast (by rw [Nat.zero_add, List.nil_append]; rfl)

theorem ref_clLonger (sv : Value) (m : Nat) (l : List Cls) (s : ByteArray) (p : Int) (w0 : World) (hR : Sl w0 sv 4 m (l.flatMap clC)) (hm : m ≤ 1000000) : Does Try.prog 123 #[sv, .string s, .int .i64 p] w0 fun v w' => (∃ v2, v = .tuple #[v2, .int .i64 (lonC l s p)] ∧ ((¬ (lonC l s p) = 0 ∧ v2 = sv ∧ Hp w0 [] w' []) ∨ ((lonC l s p) = 0 ∧ Hp w0 [] w' [.row 97 4 v2 (lonL l s p).length ((lonL l s p).flatMap clC)]))) := by
 obtain ⟨A, c0, rfl⟩ := sl_shape hR
 have hlen := flat_len clC_len (by decide) hR.len
 subst hlen
 refine does_of (l := [.slice A l.length c0, .string s, .int .i64 p]) Try.func123 (by kernel_rfl) rfl Try.ntmps123 rfl rfl ?_
 have hp := Hp.refl w0 []
 refine GW_seq ?_
 refine GW_region ?_
 refine GL_rd (v := .slice _ _ _) (wn_none rfl) rfl (rd_assign rfl rfl) ?_
 refine GL_rd (v := .int _ _) (wn_none rfl) rfl (rd_assign rfl rfl) ?_
 refine GL_nil ?_
 refine GW_seq ?_
 refine GW_region ?_
 refine GL_rd (v := .slice _ _ _) (wn_none rfl) rfl (rd_move rfl rfl) ?_
 refine GL_rd (v := .string _) (wn_none rfl) rfl (rd_move rfl rfl) ?_
 refine GL_call (wn_none rfl) rfl rfl (ref_clFind _ _ l s _ (hR.keep hp.mod) hm) rfl ?_
 rintro _ w ⟨rfl, hk⟩
 have hp := hp.comp hk
 refine GL_rd (v := .int _ _) (wn_none rfl) rfl (rd_assign rfl rfl) ?_
 refine GL_nil ?_
 refine GW_seq ?_
 refine GW_seq ?_
 refine GW_region ?_
 refine GL_rd (v := .int _ _) (wn_none rfl) rfl (rd_move rfl rfl) ?_
 refine GL_rd (wn_none rfl) rfl (rd_bin rfl rfl rfl bo_lss) ?_
 refine GL_nil ?_
 refine GW_cond rfl (fun hb => ?_) (fun hb => ?_)
 ·(try simp only [decide_eq_true_eq, decide_eq_false_iff_not, Bool.not_eq_true', Bool.not_eq_false', Bool.not_eq_eq_eq_not, Bool.not_true, Bool.not_false, Int.not_lt, Int.not_le] at hb)
  have hfi : findI l s = none := by cases hq : findI l s with | none => rfl | some i => exact absurd hb (by rw [findV, hq]; simp)
  refine GW_seq ?_
  refine GW_region ?_
  refine GL_rd (v := .slice _ _ _) (wn_none rfl) rfl (rd_move rfl rfl) ?_
  refine GL_rd (v := .slice _ _ _) (wn_none rfl) rfl (rd_assign rfl rfl) ?_
  refine GL_rd (v := .int _ _) (wn_none rfl) rfl (rd_assign rfl rfl) ?_
  refine GL_nil ?_
  refine GW_ret ?_
  have e := lon_none p hfi
  exact ⟨_, res2 Try.results123 (rv_tmp (v := .slice _ _ _) rfl rfl) (rv_tmp (v := .int _ _) rfl rfl), _, by rw [e.1], .inl ⟨by rw [e.1]; first | exact hc | decide, rfl, hp.mods⟩⟩
 ·(try simp only [decide_eq_true_eq, decide_eq_false_iff_not, Bool.not_eq_true', Bool.not_eq_false', Bool.not_eq_eq_eq_not, Bool.not_true, Bool.not_false, Int.not_lt, Int.not_le] at hb)
  obtain ⟨i, hfi⟩ : ∃ i, findI l s = some i := by cases hq : findI l s with | some i => exact ⟨i, rfl⟩ | none => exact absurd hb (by rw [findV, hq]; decide)
  have hil := (findI_lt hfi).1
  have hfv : findV l s = (i : Int) := by rw [findV, hfi]
  obtain ⟨gB, bB, rfl⟩ := hR.addr (by rw [flat_length clC_len]; omega)
  refine GW_skip ?_
  refine GW_seq ?_
  refine GW_seq ?_
  refine GW_region ?_
  refine GL_rd (v := .int _ _) (wn_none rfl) rfl (rd_move rfl rfl) ?_
  refine GL_rd (wn_none rfl) rfl (rd_bin rfl rfl rfl bo_lss) ?_
  refine GL_rd (v := .bool _) (wn_none rfl) rfl (rd_move rfl rfl) ?_
  refine GL_split (t := 18) (b := _) rfl ?_ ?_
  ·intro hb2; (try simp only [decide_eq_true_eq, decide_eq_false_iff_not, Bool.not_eq_true', Bool.not_eq_false', Bool.not_eq_eq_eq_not, Bool.not_true, Bool.not_false, Int.not_lt, Int.not_le] at hb2)
   have hpb : perB p = false := by simp only [perB, decide_eq_false_iff_not]; omega
   refine GL_pass (nw_off rfl rfl rfl rfl rfl) rfl ?_
   refine GL_pass (nw_off rfl rfl rfl rfl rfl) rfl ?_
   refine GL_rd (v := .bool _) (wn_none rfl) rfl (rd_pickT rfl rfl rfl) ?_
   refine GL_nil ?_
   refine GW_true rfl ?_
   refine GW_seq ?_
   refine GW_region ?_
   refine GL_rd (v := .slice _ _ _) (wn_none rfl) rfl (rd_move rfl rfl) ?_
   refine GL_rd (v := .slice _ _ _) (wn_none rfl) rfl (rd_assign rfl rfl) ?_
   refine GL_rd (v := .int _ _) (wn_none rfl) rfl (rd_assign rfl rfl) ?_
   refine GL_nil ?_
   refine GW_ret ?_
   have e := lon_range hfi hpb
   exact ⟨_, res2 Try.results123 (rv_tmp (v := .slice _ _ _) rfl rfl) (rv_tmp (v := .int _ _) rfl rfl), _, by rw [e.1], .inl ⟨by rw [e.1]; first | exact hc | decide, rfl, hp.mods⟩⟩
  ·intro hb2; (try simp only [decide_eq_true_eq, decide_eq_false_iff_not, Bool.not_eq_true', Bool.not_eq_false', Bool.not_eq_eq_eq_not, Bool.not_true, Bool.not_false, Int.not_lt, Int.not_le] at hb2)
   refine GL_rd (v := .int _ _) (wn_on rfl rfl rfl rfl) rfl (rd_move rfl rfl) ?_
   refine GL_rd (wn_on rfl rfl rfl rfl) rfl (rd_bin rfl rfl rfl bo_gtr) ?_
   refine GL_rd (v := .bool _) (wn_none rfl) rfl (rd_pickF rfl rfl rfl) ?_
   refine GL_nil ?_
   refine GW_cond rfl (fun hb3 => ?_) (fun hb3 => ?_)
   ·(try simp only [decide_eq_true_eq, decide_eq_false_iff_not, Bool.not_eq_true', Bool.not_eq_false', Bool.not_eq_eq_eq_not, Bool.not_true, Bool.not_false, Int.not_lt, Int.not_le] at hb3)
    have hpb : perB p = false := by simp only [perB, decide_eq_false_iff_not]; omega
    refine GW_seq ?_
    refine GW_region ?_
    refine GL_rd (v := .slice _ _ _) (wn_none rfl) rfl (rd_move rfl rfl) ?_
    refine GL_rd (v := .slice _ _ _) (wn_none rfl) rfl (rd_assign rfl rfl) ?_
    refine GL_rd (v := .int _ _) (wn_none rfl) rfl (rd_assign rfl rfl) ?_
    refine GL_nil ?_
    refine GW_ret ?_
    have e := lon_range hfi hpb
    exact ⟨_, res2 Try.results123 (rv_tmp (v := .slice _ _ _) rfl rfl) (rv_tmp (v := .int _ _) rfl rfl), _, by rw [e.1], .inl ⟨by rw [e.1]; first | exact hc | decide, rfl, hp.mods⟩⟩
   ·(try simp only [decide_eq_true_eq, decide_eq_false_iff_not, Bool.not_eq_true', Bool.not_eq_false', Bool.not_eq_eq_eq_not, Bool.not_true, Bool.not_false, Int.not_lt, Int.not_le] at hb3)
    have hpb : perB p = true := by simp only [perB, decide_eq_true_eq]; omega
    refine GW_skip ?_
    refine GW_seq ?_
    refine GW_seq ?_
    refine GW_region ?_
    refine GL_rd (v := .int _ _) (wn_none rfl) rfl (rd_move rfl rfl) ?_
    refine GL_rd (v := .slice _ _ _) (wn_none rfl) rfl (rd_move rfl rfl) ?_
    refine GL_rd (v := .int _ _) (wn_none rfl) rfl (rd_move rfl rfl) ?_
    refine GL_rd (wn_none rfl) rfl (rd_indexS (j := i) rfl rfl rfl Try.underlying90 ts97 hfv (by omega) _ rfl) ?_
    refine GL_rd (wn_none rfl) rfl (rd_field rfl rfl fa97_1 _ rfl) ?_
    refine GL_rd (wn_none rfl) rfl (rd_load rfl rfl Try.underlying3 rfl ((hR.keep hp.mod).get _ _ (cl_cell (i := i) (j := 1) (by omega) rfl (by decide)))) ?_
    refine GL_rd (wn_none rfl) rfl (rd_bin rfl rfl rfl bo_lss) ?_
    refine GL_nil ?_
    refine GW_cond rfl (fun hb4 => ?_) (fun hb4 => ?_)
    ·(try simp only [decide_eq_true_eq, decide_eq_false_iff_not, Bool.not_eq_true', Bool.not_eq_false', Bool.not_eq_eq_eq_not, Bool.not_true, Bool.not_false, Int.not_lt, Int.not_le] at hb4)
     refine GW_seq ?_
     refine GW_region ?_
     refine GL_rd (v := .slice _ _ _) (wn_none rfl) rfl (rd_move rfl rfl) ?_
     refine GL_rd (v := .slice _ _ _) (wn_none rfl) rfl (rd_assign rfl rfl) ?_
     refine GL_rd (v := .int _ _) (wn_none rfl) rfl (rd_assign rfl rfl) ?_
     refine GL_nil ?_
     refine GW_ret ?_
     have e := lon_kept hfi hpb (by omega)
     exact ⟨_, res2 Try.results123 (rv_tmp (v := .slice _ _ _) rfl rfl) (rv_tmp (v := .int _ _) rfl rfl), _, by rw [e.1], .inl ⟨by rw [e.1]; first | exact hc | decide, rfl, hp.mods⟩⟩
    ·(try simp only [decide_eq_true_eq, decide_eq_false_iff_not, Bool.not_eq_true', Bool.not_eq_false', Bool.not_eq_eq_eq_not, Bool.not_true, Bool.not_false, Int.not_lt, Int.not_le] at hb4)
     refine GW_skip ?_
     refine GW_seq ?_
     refine GW_region ?_
     refine GL_rd (v := .slice _ _ _) (wn_none rfl) rfl (rd_assign rfl rfl) ?_
     refine GL_nil ?_
     refine GW_seq ?_
     refine GW_region ?_
     refine GL_rd (v := .slice _ _ _) (wn_none rfl) rfl (rd_move rfl rfl) ?_
     refine GL_rd (v := .slice _ _ _) (wn_none rfl) rfl (rd_move rfl rfl) ?_
     have hp := hp.nilRow 97 4
     refine GL_append (i := 0) (wn_none rfl) rfl rfl rfl rfl Try.underlying90 ti97 rfl (by decide) hp rfl (hR.keep hp.mod) (flat_one clC_one _) (by omega) (by omega) ?_
     intro v w hp
     obtain ⟨Av, cv, rfl⟩ := row_shape (hp.get 0 rfl)
     obtain ⟨gR, cap, hq, hcap⟩ := row_addr (hp.get 0 rfl) (by omega)
     injection hq with h1 h2 h3
     subst h1 h3
     refine GL_rd (v := .slice _ _ _) (wn_none rfl) rfl (rd_assign rfl rfl) ?_
     refine GL_nil ?_
     refine GW_seq ?_
     refine GW_region ?_
     refine GL_rd (v := .slice _ _ _) (wn_none rfl) rfl (rd_move rfl rfl) ?_
     refine GL_rd (v := .int _ _) (wn_none rfl) rfl (rd_move rfl rfl) ?_
     refine GL_rd (v := .int _ _) (wn_none rfl) rfl (rd_move rfl rfl) ?_
     refine GL_rd (wn_none rfl) rfl (rd_indexS (j := i) rfl rfl rfl Try.underlying90 ts97 hfv (by omega) _ rfl) ?_
     refine GL_rd (wn_none rfl) rfl (rd_field rfl rfl fa97_1 _ rfl) ?_
     refine GL_storeR (i := 0) (wn_none rfl) rfl rfl rfl rfl ts3 rfl rfl (one1 rfl) hp rfl rfl (by rw [List.nil_append, flat_length clC_len]; omega) (setP_cellsN hil) ?_
     intro w hp
     refine GL_nil ?_
     refine GW_seq ?_
     refine GW_region ?_
     refine GL_rd (v := .slice _ _ _) (wn_none rfl) rfl (rd_move rfl rfl) ?_
     refine GL_rd (v := .slice _ _ _) (wn_none rfl) rfl (rd_assign rfl rfl) ?_
     refine GL_rd (v := .int _ _) (wn_none rfl) rfl (rd_assign rfl rfl) ?_
     refine GL_nil ?_
     refine GW_ret ?_
     have e := lon_yes hfi hpb (by omega)
     refine ⟨_, res2 Try.results123 (rv_tmp (v := .slice _ _ _) rfl rfl) (rv_tmp (v := .int _ _) rfl rfl), _, by rw [e.1], .inr ⟨by rw [e.1], ?_⟩⟩
     rw [lonL_length, e.2]
     exact hp.cast (by rw [Nat.zero_add]; rfl)

theorem cl_Put (gq mq : Nat) (sv : Value) (m : Nat) (l : List Cls) (w0 : World) (hA : (cells gq 180 [sv, .map (some mq)]).at_ w0) (hR : Sl w0 sv 4 m (l.flatMap clC)) (hM : (Res.blk mq (.map ⟨mapE 0 l⟩ l.length)).at_ w0) (hok : ClsOk l) : Does Try.prog 70 #[.pointer (some ⟨gq, 0, none⟩)] w0 fun v w' => v = .agg ⟨bys (clsS l)⟩ ∧ Hp w0 [] w' [] := by
 obtain ⟨A, c, rfl⟩ := sl_shape hR
 have hlen := flat_len clC_len (by decide) hR.len
 have hmle := hR.le
 have h8 := hok.1
 subst hlen
 refine does_of (l := [.pointer (some ⟨gq, 0, none⟩)]) Try.func70 (by kernel_rfl) rfl Try.ntmps70 rfl rfl ?_
 have hp := Hp.refl w0 []
 refine GW_seq ?_
 refine GW_region ?_
 refine GL_alloc (wn_none rfl) rfl rfl tz67 rfl hp ?_
 intro g w hp
 refine GL_nil ?_
 refine GW_seq ?_
 refine GW_region ?_
 refine GL_rd (v := .pointer (some ⟨_, _, none⟩)) (wn_none rfl) rfl (rd_move rfl rfl) ?_
 refine GL_rd (wn_none rfl) rfl (rd_nilCheck rfl rfl) ?_
 refine GL_rd (wn_none rfl) rfl (rd_field rfl rfl fa180_0 _ rfl) ?_
 refine GL_rd (v := .slice _ _ _) (wn_none rfl) rfl (rd_load rfl rfl Try.underlying90 rfl ((cell_of_cells (cells.keep hA hp.mod) _).trans rfl)) ?_
 refine GL_rd (wn_none rfl) rfl (rd_len rfl rfl Try.underlying90) ?_
 refine GL_rd (wn_none rfl) rfl (rd_convE (q := ((UInt8.ofNat l.length).toNat : Int)) rfl rfl Try.underlying5 Try.underlying3 (by simp) (len_wrap _)) ?_
 refine GL_lit (L := bys [UInt8.ofNat l.length]) (wn_none rfl) rfl rfl Try.underlying42 ts5 tz5 rfl (by kernel_rfl) rfl rfl hp ?_
 intro g2 w hp
 refine GL_rd (v := .slice _ _ _) (wn_none rfl) rfl (rd_assign rfl rfl) ?_
 refine GL_nil ?_
 refine GW_seq ?_
 refine GW_seq ?_
 refine GW_region ?_
 refine GL_rd (v := .pointer (some ⟨_, _, none⟩)) (wn_none rfl) rfl (rd_move rfl rfl) ?_
 refine GL_rd (wn_none rfl) rfl (rd_nilCheck rfl rfl) ?_
 refine GL_rd (wn_none rfl) rfl (rd_field rfl rfl fa180_0 _ rfl) ?_
 refine GL_rd (v := .slice _ _ _) (wn_none rfl) rfl (rd_load rfl rfl Try.underlying90 rfl ((cell_of_cells (cells.keep hA hp.mod) _).trans rfl)) ?_
 refine GL_rd (wn_none rfl) rfl (rd_len rfl rfl Try.underlying90) ?_
 refine GL_rd (v := .int _ _) (wn_none rfl) rfl (rd_move rfl rfl) ?_
 refine GL_nil ?_
 refine GW_block ?_
 refine GW_loop ?_
 refine Lp_ind (α := Nat × Value) (fun a_0 f_0 w' => match a_0 with | (i, v) => ∃ fz, f_0 = (upd (upd (upd (upd (upd fz 2 (.pointer (some ⟨g, 0, none⟩))) 3 (v)) 20 (.slice A l.length c)) 21 (.int .i64 (l.length : Int))) 22 (.int .i64 (i : Int))) ∧ Hp w0 [] w' [.row 5 1 v (1 + 23 * i) (bys (UInt8.ofNat l.length :: (l.take i).flatMap clsB)), cells g 67 (List.replicate 256 (.int .u8 0))] ∧ (i ≤ l.length)) (fun a_0 => match a_0 with | (i, v) => l.length - i) ?_ (0, .slice (some ⟨g2, 0, none⟩) 1 1) _ _ ?_
 ·rintro ⟨i, v⟩ f wz ⟨fz, rfl, hp, hi0⟩ ihL0
  refine Lp_round ?_
  refine GW_seq ?_
  refine GW_region ?_
  refine GL_rd (wn_none rfl) rfl (rd_bin rfl rfl rfl bo_lss) ?_
  refine GL_nil ?_
  refine GW_seq ?_
  refine GW_cond rfl (fun hb => ?_) (fun hb => ?_)
  ·(try simp only [decide_eq_true_eq, decide_eq_false_iff_not, Bool.not_eq_true', Bool.not_eq_false', Bool.not_eq_eq_eq_not, Bool.not_true, Bool.not_false, Int.not_lt, Int.not_le] at hb)
   obtain ⟨gB, bB, rfl⟩ := hR.addr (by rw [flat_length clC_len]; omega)
   have hcz := hok.2.1 i (by omega)
   have hpl := cls_pad hcz
   have hpp := cls_per hcz
   have hnl := (nameC_le (clsC_zero.1 hcz).1).2
   refine GW_skip ?_
   refine GW_seq ?_
   refine GW_block ?_
   refine GW_seq ?_
   refine GW_region ?_
   refine GL_rd (wn_none rfl) rfl (rd_indexS (j := i) rfl rfl rfl Try.underlying90 ts97 rfl (by omega) _ rfl) ?_
   refine GL_rd (wn_none rfl) rfl (rd_loadN (L := clC (clAt l i)) rfl rfl Try.underlying97 rfl ts97 rfl (fun j u hj => (hR.keep hp.mod).elem clC_len i j (clC_lt hj) (clAt_some (by omega)) hj)) ?_
   refine GL_alloc (wn_none rfl) rfl rfl tz97 rfl hp ?_
   intro g3 w hp
   refine GL_store (i := 0) (wn_none rfl) rfl rfl rfl rfl ts97 rfl rfl (clC_one _) hp rfl (by decide) rfl ?_
   intro w hp
   refine GL_nil ?_
   refine GW_seq ?_
   refine GW_region ?_
   refine GL_rd (wn_none rfl) rfl (rd_field rfl rfl fa97_0 _ rfl) ?_
   refine GL_rd (wn_none rfl) rfl (rd_load rfl rfl Try.underlying9 rfl ((cell_of_cells (hp.get 0 rfl) _).trans rfl)) ?_
   refine GL_call (wn_none rfl) rfl rfl (word_Pad (clAt l i).nm 16 _ (by omega)) rfl ?_
   rintro _ w ⟨vp, rfl, hk⟩
   have hp := hp.comp hk
   refine GL_rd (v := .tuple _) (wn_none rfl) rfl (rd_move rfl rfl) ?_
   refine GL_rd (v := vp) (wn_none rfl) rfl (rd_extract rfl rfl rfl) ?_
   refine GL_rd (v := .int _ _) (wn_none rfl) rfl (rd_extract rfl rfl rfl) ?_
   refine GL_rd (v := vp) (wn_none rfl) rfl (rd_assign rfl rfl) ?_
   refine GL_rd (v := .int _ _) (wn_none rfl) rfl (rd_assign rfl rfl) ?_
   refine GL_nil ?_
   refine GW_seq ?_
   refine GW_region ?_
   refine GL_rd (v := v) (wn_none rfl) rfl (rd_move rfl rfl) ?_
   refine GL_rd (v := vp) (wn_none rfl) rfl (rd_move rfl rfl) ?_
   refine GL_append (i := 2) (wn_none rfl) rfl rfl rfl rfl Try.underlying42 ti5 rfl (by decide) hp rfl (Sl.row (hp.get 0 rfl)) (bys_one _) (by omega) (by omega) ?_
   intro v w hp
   refine GL_rd (v := v) (wn_none rfl) rfl (rd_assign rfl rfl) ?_
   refine GL_nil ?_
   refine GW_seq ?_
   refine GW_region ?_
   refine GL_rd (v := v) (wn_none rfl) rfl (rd_move rfl rfl) ?_
   refine GL_rd (wn_none rfl) rfl (rd_field rfl rfl fa97_1 _ rfl) ?_
   refine GL_rd (wn_none rfl) rfl (rd_load rfl rfl Try.underlying3 rfl ((cell_of_cells (hp.get 1 rfl) _).trans rfl)) ?_
   refine GL_rd (wn_none rfl) rfl (rd_convE (q := ((clAt l i).pd.toNat : Int)) rfl rfl Try.underlying165 Try.underlying3 (by simp) (by rw [IntWalk.u64_in _ (by omega)]; omega)) ?_
   refine GL_call (wn_none rfl) rfl rfl (word_Put (clAt l i).pd.toNat 6 _ (by omega) (by decide)) rfl ?_
   rintro _ w ⟨q, rfl, hk⟩
   have hp := hp.comp hk
   refine GL_append (i := 3) (wn_none rfl) rfl rfl rfl rfl Try.underlying42 ti5 rfl (by decide) hp rfl (Sl.row (hp.get 0 rfl)) (bys_one _) (by omega) (by omega) ?_
   intro v2 w hp
   refine GL_rd (v := v2) (wn_none rfl) rfl (rd_assign rfl rfl) ?_
   refine GL_nil ?_
   refine GW_seq ?_
   refine GW_region ?_
   refine GL_rd (v := .int _ _) (wn_none rfl) rfl (rd_assign rfl rfl) ?_
   refine GL_nil ?_
   refine GW_seq ?_
   refine GW_seq ?_
   refine GW_region ?_
   refine GL_rd (wn_none rfl) rfl (rd_field rfl rfl fa97_2 _ rfl) ?_
   refine GL_rd (wn_none rfl) rfl (rd_load rfl rfl Try.underlying4 rfl ((cell_of_cells (hp.get 2 rfl) _).trans rfl)) ?_
   refine GL_nil ?_
   refine GW_cond rfl (fun hb2 => ?_) (fun hb2 => ?_)
   ·(try simp only [decide_eq_true_eq, decide_eq_false_iff_not, Bool.not_eq_true', Bool.not_eq_false', Bool.not_eq_eq_eq_not, Bool.not_true, Bool.not_false, Int.not_lt, Int.not_le] at hb2)
    have hev : (clAt l i).ev = true := hb2
    refine GW_region ?_
    refine GL_rd (v := .int _ _) (wn_none rfl) rfl (rd_move rfl rfl) ?_
    refine GL_rd (wn_none rfl) rfl (rd_bin rfl rfl rfl (bo_int (q := 1) bo_or (by decide))) ?_
    refine GL_rd (v := .int _ _) (wn_none rfl) rfl (rd_assign rfl rfl) ?_
    refine GL_nil ?_
    refine GW_seq ?_
    refine GW_seq ?_
    refine GW_region ?_
    refine GL_rd (wn_none rfl) rfl (rd_field rfl rfl fa97_3 _ rfl) ?_
    refine GL_rd (wn_none rfl) rfl (rd_load rfl rfl Try.underlying4 rfl ((cell_of_cells (hp.get 2 rfl) _).trans rfl)) ?_
    refine GL_nil ?_
    refine GW_cond rfl (fun hb3 => ?_) (fun hb3 => ?_)
    ·(try simp only [decide_eq_true_eq, decide_eq_false_iff_not, Bool.not_eq_true', Bool.not_eq_false', Bool.not_eq_eq_eq_not, Bool.not_true, Bool.not_false, Int.not_lt, Int.not_le] at hb3)
     have hpr : (clAt l i).pr = true := hb3
     refine GW_region ?_
     refine GL_rd (v := .int _ _) (wn_none rfl) rfl (rd_move rfl rfl) ?_
     refine GL_rd (wn_none rfl) rfl (rd_bin rfl rfl rfl (bo_int (q := 3) bo_or (by decide))) ?_
     refine GL_rd (v := .int _ _) (wn_none rfl) rfl (rd_assign rfl rfl) ?_
     refine GL_nil ?_
     refine GW_region ?_
     refine GL_rd (v := v2) (wn_none rfl) rfl (rd_move rfl rfl) ?_
     refine GL_rd (v := .int _ _) (wn_none rfl) rfl (rd_move rfl rfl) ?_
     refine GL_lit (L := [.int .u8 3]) (wn_none rfl) rfl rfl Try.underlying42 ts5 tz5 rfl (by kernel_rfl) rfl rfl hp ?_
     intro g4 w hp
     refine GL_append (i := 4) (wn_none rfl) rfl rfl rfl rfl Try.underlying42 ti5 rfl (by decide) hp rfl (Sl.row (hp.get 0 rfl)) (one1 rfl) (by omega) (by omega) ?_
     intro v3 w hp
     refine GL_rd (v := v3) (wn_none rfl) rfl (rd_assign rfl rfl) ?_
     refine GL_nil ?_
     refine GW_region ?_
     refine GL_rd (wn_none rfl) rfl (rd_bin rfl rfl rfl (bo_add64 (by omega))) ?_
     refine GL_rd (v := .int _ _) (wn_none rfl) rfl (rd_move rfl rfl) ?_
     refine GL_nil ?_
     have hp := (((hp.front 5 rfl).front 5 rfl).take 2)
     have hfl : (3 : Int) = ((flagB (clAt l i).ev (clAt l i).pr).toNat : Int) := by rw [hev, hpr]; rfl
     have hp : Hp w0 [] w [.row 5 1 v3 (1 + 23 * (i + 1)) (bys (UInt8.ofNat l.length :: (l.take (i + 1)).flatMap clsB)), cells g 67 (List.replicate 256 (.int .u8 0))] := by rw [← cls_step (by omega) hfl]; rw [hpl] at hp; exact hp
     exact ihL0 (i + 1, v3) _ _ (by simp only []; omega) ⟨_, slots5 rfl rfl rfl rfl rfl, hp, by omega⟩
    ·(try simp only [decide_eq_true_eq, decide_eq_false_iff_not, Bool.not_eq_true', Bool.not_eq_false', Bool.not_eq_eq_eq_not, Bool.not_true, Bool.not_false, Int.not_lt, Int.not_le] at hb3)
     have hpr : (clAt l i).pr = false := hb3
     refine GW_skip ?_
     refine GW_region ?_
     refine GL_rd (v := v2) (wn_none rfl) rfl (rd_move rfl rfl) ?_
     refine GL_rd (v := .int _ _) (wn_none rfl) rfl (rd_move rfl rfl) ?_
     refine GL_lit (L := [.int .u8 1]) (wn_none rfl) rfl rfl Try.underlying42 ts5 tz5 rfl (by kernel_rfl) rfl rfl hp ?_
     intro g5 w hp
     refine GL_append (i := 4) (wn_none rfl) rfl rfl rfl rfl Try.underlying42 ti5 rfl (by decide) hp rfl (Sl.row (hp.get 0 rfl)) (one1 rfl) (by omega) (by omega) ?_
     intro v4 w hp
     refine GL_rd (v := v4) (wn_none rfl) rfl (rd_assign rfl rfl) ?_
     refine GL_nil ?_
     refine GW_region ?_
     refine GL_rd (wn_none rfl) rfl (rd_bin rfl rfl rfl (bo_add64 (by omega))) ?_
     refine GL_rd (v := .int _ _) (wn_none rfl) rfl (rd_move rfl rfl) ?_
     refine GL_nil ?_
     have hp := (((hp.front 5 rfl).front 5 rfl).take 2)
     have hfl : (1 : Int) = ((flagB (clAt l i).ev (clAt l i).pr).toNat : Int) := by rw [hev, hpr]; rfl
     have hp : Hp w0 [] w [.row 5 1 v4 (1 + 23 * (i + 1)) (bys (UInt8.ofNat l.length :: (l.take (i + 1)).flatMap clsB)), cells g 67 (List.replicate 256 (.int .u8 0))] := by rw [← cls_step (by omega) hfl]; rw [hpl] at hp; exact hp
     exact ihL0 (i + 1, v4) _ _ (by simp only []; omega) ⟨_, slots5 rfl rfl rfl rfl rfl, hp, by omega⟩
   ·(try simp only [decide_eq_true_eq, decide_eq_false_iff_not, Bool.not_eq_true', Bool.not_eq_false', Bool.not_eq_eq_eq_not, Bool.not_true, Bool.not_false, Int.not_lt, Int.not_le] at hb2)
    have hev : (clAt l i).ev = false := hb2
    refine GW_skip ?_
    refine GW_seq ?_
    refine GW_seq ?_
    refine GW_region ?_
    refine GL_rd (wn_none rfl) rfl (rd_field rfl rfl fa97_3 _ rfl) ?_
    refine GL_rd (wn_none rfl) rfl (rd_load rfl rfl Try.underlying4 rfl ((cell_of_cells (hp.get 2 rfl) _).trans rfl)) ?_
    refine GL_nil ?_
    refine GW_cond rfl (fun hb4 => ?_) (fun hb4 => ?_)
    ·(try simp only [decide_eq_true_eq, decide_eq_false_iff_not, Bool.not_eq_true', Bool.not_eq_false', Bool.not_eq_eq_eq_not, Bool.not_true, Bool.not_false, Int.not_lt, Int.not_le] at hb4)
     have hpr : (clAt l i).pr = true := hb4
     refine GW_region ?_
     refine GL_rd (v := .int _ _) (wn_none rfl) rfl (rd_move rfl rfl) ?_
     refine GL_rd (wn_none rfl) rfl (rd_bin rfl rfl rfl (bo_int (q := 2) bo_or (by decide))) ?_
     refine GL_rd (v := .int _ _) (wn_none rfl) rfl (rd_assign rfl rfl) ?_
     refine GL_nil ?_
     refine GW_region ?_
     refine GL_rd (v := v2) (wn_none rfl) rfl (rd_move rfl rfl) ?_
     refine GL_rd (v := .int _ _) (wn_none rfl) rfl (rd_move rfl rfl) ?_
     refine GL_lit (L := [.int .u8 2]) (wn_none rfl) rfl rfl Try.underlying42 ts5 tz5 rfl (by kernel_rfl) rfl rfl hp ?_
     intro g6 w hp
     refine GL_append (i := 4) (wn_none rfl) rfl rfl rfl rfl Try.underlying42 ti5 rfl (by decide) hp rfl (Sl.row (hp.get 0 rfl)) (one1 rfl) (by omega) (by omega) ?_
     intro v5 w hp
     refine GL_rd (v := v5) (wn_none rfl) rfl (rd_assign rfl rfl) ?_
     refine GL_nil ?_
     refine GW_region ?_
     refine GL_rd (wn_none rfl) rfl (rd_bin rfl rfl rfl (bo_add64 (by omega))) ?_
     refine GL_rd (v := .int _ _) (wn_none rfl) rfl (rd_move rfl rfl) ?_
     refine GL_nil ?_
     have hp := (((hp.front 5 rfl).front 5 rfl).take 2)
     have hfl : (2 : Int) = ((flagB (clAt l i).ev (clAt l i).pr).toNat : Int) := by rw [hev, hpr]; rfl
     have hp : Hp w0 [] w [.row 5 1 v5 (1 + 23 * (i + 1)) (bys (UInt8.ofNat l.length :: (l.take (i + 1)).flatMap clsB)), cells g 67 (List.replicate 256 (.int .u8 0))] := by rw [← cls_step (by omega) hfl]; rw [hpl] at hp; exact hp
     exact ihL0 (i + 1, v5) _ _ (by simp only []; omega) ⟨_, slots5 rfl rfl rfl rfl rfl, hp, by omega⟩
    ·(try simp only [decide_eq_true_eq, decide_eq_false_iff_not, Bool.not_eq_true', Bool.not_eq_false', Bool.not_eq_eq_eq_not, Bool.not_true, Bool.not_false, Int.not_lt, Int.not_le] at hb4)
     have hpr : (clAt l i).pr = false := hb4
     refine GW_skip ?_
     refine GW_region ?_
     refine GL_rd (v := v2) (wn_none rfl) rfl (rd_move rfl rfl) ?_
     refine GL_rd (v := .int _ _) (wn_none rfl) rfl (rd_move rfl rfl) ?_
     refine GL_lit (L := [.int .u8 0]) (wn_none rfl) rfl rfl Try.underlying42 ts5 tz5 rfl (by kernel_rfl) rfl rfl hp ?_
     intro g7 w hp
     refine GL_append (i := 4) (wn_none rfl) rfl rfl rfl rfl Try.underlying42 ti5 rfl (by decide) hp rfl (Sl.row (hp.get 0 rfl)) (one1 rfl) (by omega) (by omega) ?_
     intro v6 w hp
     refine GL_rd (v := v6) (wn_none rfl) rfl (rd_assign rfl rfl) ?_
     refine GL_nil ?_
     refine GW_region ?_
     refine GL_rd (wn_none rfl) rfl (rd_bin rfl rfl rfl (bo_add64 (by omega))) ?_
     refine GL_rd (v := .int _ _) (wn_none rfl) rfl (rd_move rfl rfl) ?_
     refine GL_nil ?_
     have hp := (((hp.front 5 rfl).front 5 rfl).take 2)
     have hfl : (0 : Int) = ((flagB (clAt l i).ev (clAt l i).pr).toNat : Int) := by rw [hev, hpr]; rfl
     have hp : Hp w0 [] w [.row 5 1 v6 (1 + 23 * (i + 1)) (bys (UInt8.ofNat l.length :: (l.take (i + 1)).flatMap clsB)), cells g 67 (List.replicate 256 (.int .u8 0))] := by rw [← cls_step (by omega) hfl]; rw [hpl] at hp; exact hp
     exact ihL0 (i + 1, v6) _ _ (by simp only []; omega) ⟨_, slots5 rfl rfl rfl rfl rfl, hp, by omega⟩
  ·(try simp only [decide_eq_true_eq, decide_eq_false_iff_not, Bool.not_eq_true', Bool.not_eq_false', Bool.not_eq_eq_eq_not, Bool.not_true, Bool.not_false, Int.not_lt, Int.not_le] at hb)
   obtain rfl : i = l.length := by omega
   rw [List.take_of_length_le (Nat.le_refl _)] at hp
   refine GW_exit ?_
   refine GW_seq ?_
   refine GW_region ?_
   refine GL_rd (v := v) (wn_none rfl) rfl (rd_move rfl rfl) ?_
   refine GL_call (wn_none rfl) rfl rfl (word_Whole _ _ (clssB l) _ (Sl.row (hp.get 0 rfl))) rfl ?_
   rintro _ w ⟨rfl, hk⟩
   have hp := hp.comp hk
   refine GL_alloc (wn_none rfl) rfl rfl tz67 rfl hp ?_
   intro g8 w hp
   refine GL_store (i := 0) (wn_none rfl) rfl rfl rfl rfl ts67 rfl (by rw [bys_length, wholeL_length]) (bys_one _) hp rfl (by rw [List.length_replicate]; omega) (splice_all _ _ (by rw [bys_length, wholeL_length, List.length_replicate])) ?_
   intro w hp
   refine GL_nil ?_
   refine GW_seq ?_
   refine GW_region ?_
   refine GL_rd (wn_none rfl) rfl (rd_sliceA (lo := 0) (hi := 252) rfl rfl Try.underlying67 ts5 at_none (at_some rfl rfl) (by decide) (by decide) (by decide) _ rfl) ?_
   refine GL_call (wn_none rfl) rfl rfl (crc_Sealed _ 252 ((wholeL (clssB l)).take 252) _ (Sl.cells (hp.get 0 rfl) 1 252 256 0 (bys ((wholeL (clssB l)).take 252)) (by rw [List.drop_zero, Nat.mul_one]; exact (bys_take _ _).symm) (by rw [bys_length, wholeL_length]; decide) (by decide) (by decide)) (by decide)) rfl ?_
   intro vS w hk
   have hp := hp.comp hk
   refine GL_call (wn_none rfl) rfl rfl (word_Whole _ _ _ _ (Sl.row (hp.get 0 rfl))) rfl ?_
   rintro _ w ⟨rfl, hk⟩
   have hp := hp.comp hk
   refine GL_store (i := 3) (wn_none rfl) rfl rfl rfl rfl ts67 rfl (by rw [bys_length, wholeL_length]) (bys_one _) hp rfl (by rw [List.length_replicate]; omega) ((splice_all _ _ (by rw [bys_length, wholeL_length, List.length_replicate])).trans (by rw [cls_made hok])) ?_
   intro w hp
   refine GL_nil ?_
   refine GW_ret ?_
   exact ⟨_, res1 Try.results70 (rv_cell rfl rfl Try.underlying67 rfl ts67 (by first | rw [bys_length, clsS_length] | rw [bys_length, secL_length] | exact List.length_replicate) (hp.get 3 rfl)), rfl, hp.mods⟩
 ·refine ⟨_, slots5 rfl rfl rfl rfl rfl, hp, Nat.zero_le _⟩

theorem ref_clPut (sv : Value) (m : Nat) (l : List Cls) (w0 : World) (hR : Sl w0 sv 4 m (l.flatMap clC)) (hm : m ≤ 1000000) (hok : ClsOk l) : Does Try.prog 71 #[sv] w0 fun v w' => v = .agg ⟨bys (clsS l)⟩ ∧ Hp w0 [] w' [] := by
 obtain ⟨A, c0, rfl⟩ := sl_shape hR
 have hlen := flat_len clC_len (by decide) hR.len
 subst hlen
 have h8 := hok.1
 refine does_of (l := [.slice A l.length c0]) Try.func71 (by kernel_rfl) rfl Try.ntmps71 rfl rfl ?_
 have hp := Hp.refl w0 []
 refine GW_seq ?_
 refine GW_region ?_
 refine GL_alloc (wn_none rfl) rfl rfl tz67 rfl hp ?_
 intro g w hp
 refine GL_nil ?_
 refine GW_seq ?_
 refine GW_region ?_
 refine GL_rd (v := .slice _ _ _) (wn_none rfl) rfl (rd_move rfl rfl) ?_
 refine GL_rd (wn_none rfl) rfl (rd_len rfl rfl Try.underlying90) ?_
 refine GL_rd (wn_none rfl) rfl (rd_convE (q := ((UInt8.ofNat l.length).toNat : Int)) rfl rfl Try.underlying5 Try.underlying3 (by simp) (len_wrap _)) ?_
 refine GL_lit (L := bys [UInt8.ofNat l.length]) (wn_none rfl) rfl rfl Try.underlying42 ts5 tz5 rfl (by kernel_rfl) rfl rfl hp ?_
 intro g2 w hp
 refine GL_rd (v := .slice _ _ _) (wn_none rfl) rfl (rd_assign rfl rfl) ?_
 refine GL_nil ?_
 refine GW_seq ?_
 refine GW_seq ?_
 refine GW_region ?_
 refine GL_rd (v := .int _ _) (wn_none rfl) rfl (rd_assign rfl rfl) ?_
 refine GL_nil ?_
 refine GW_block ?_
 refine GW_loop ?_
 refine Lp_ind (α := Nat × Value) (fun a_0 f_0 w' => match a_0 with | (i, v) => ∃ fz, f_0 = (upd (upd (upd (upd fz 0 (.slice A l.length c0)) 2 (.pointer (some ⟨g, 0, none⟩))) 3 (v)) 4 (.int .i64 (i : Int))) ∧ Hp w0 [] w' [.row 5 1 v (1 + 23 * i) (bys (UInt8.ofNat l.length :: (l.take i).flatMap clsB)), cells g 67 (List.replicate 256 (.int .u8 0))] ∧ (i ≤ l.length)) (fun a_0 => match a_0 with | (i, v) => l.length - i) ?_ (0, .slice (some ⟨g2, 0, none⟩) 1 1) _ _ ?_
 ·rintro ⟨i, v⟩ f wz ⟨fz, rfl, hp, hi0⟩ ihL0
  refine Lp_round ?_
  refine GW_seq ?_
  refine GW_seq ?_
  refine GW_region ?_
  refine GL_rd (v := .int _ _) (wn_none rfl) rfl (rd_move rfl rfl) ?_
  refine GL_rd (v := .slice _ _ _) (wn_none rfl) rfl (rd_move rfl rfl) ?_
  refine GL_rd (wn_none rfl) rfl (rd_len rfl rfl Try.underlying90) ?_
  refine GL_rd (wn_none rfl) rfl (rd_bin rfl rfl rfl bo_lss) ?_
  refine GL_nil ?_
  refine GW_cond rfl (fun hb => ?_) (fun hb => ?_)
  ·(try simp only [decide_eq_true_eq, decide_eq_false_iff_not, Bool.not_eq_true', Bool.not_eq_false', Bool.not_eq_eq_eq_not, Bool.not_true, Bool.not_false, Int.not_lt, Int.not_le] at hb)
   obtain ⟨gB, bB, rfl⟩ := hR.addr (by rw [flat_length clC_len]; omega)
   have hcz := hok.2.1 i (by omega)
   have hpl := cls_pad hcz
   have hpp := cls_per hcz
   have hnl := (nameC_le (clsC_zero.1 hcz).1).2
   refine GW_skip ?_
   refine GW_seq ?_
   refine GW_block ?_
   refine GW_seq ?_
   refine GW_region ?_
   refine GL_rd (v := .slice _ _ _) (wn_none rfl) rfl (rd_move rfl rfl) ?_
   refine GL_rd (v := .int _ _) (wn_none rfl) rfl (rd_move rfl rfl) ?_
   refine GL_rd (wn_none rfl) rfl (rd_indexS (j := i) rfl rfl rfl Try.underlying90 ts97 rfl (by omega) _ rfl) ?_
   refine GL_rd (wn_none rfl) rfl (rd_field rfl rfl fa97_0 _ rfl) ?_
   refine GL_rd (wn_none rfl) rfl (rd_load rfl rfl Try.underlying9 rfl ((hR.keep hp.mod).get _ _ (cl_cell (i := i) (j := 0) (by omega) rfl (by decide)))) ?_
   refine GL_call (wn_none rfl) rfl rfl (ref_Pad (clAt l i).nm 16 _ (by omega)) rfl ?_
   rintro _ w ⟨vp, rfl, hk⟩
   have hp := hp.comp hk
   refine GL_rd (v := .tuple _) (wn_none rfl) rfl (rd_move rfl rfl) ?_
   refine GL_rd (v := vp) (wn_none rfl) rfl (rd_extract rfl rfl rfl) ?_
   refine GL_rd (v := .int _ _) (wn_none rfl) rfl (rd_extract rfl rfl rfl) ?_
   refine GL_rd (v := vp) (wn_none rfl) rfl (rd_assign rfl rfl) ?_
   refine GL_rd (v := .int _ _) (wn_none rfl) rfl (rd_assign rfl rfl) ?_
   refine GL_nil ?_
   refine GW_seq ?_
   refine GW_region ?_
   refine GL_rd (v := v) (wn_none rfl) rfl (rd_move rfl rfl) ?_
   refine GL_rd (v := vp) (wn_none rfl) rfl (rd_move rfl rfl) ?_
   refine GL_append (i := 1) (wn_none rfl) rfl rfl rfl rfl Try.underlying42 ti5 rfl (by decide) hp rfl (Sl.row (hp.get 0 rfl)) (bys_one _) (by omega) (by omega) ?_
   intro v w hp
   refine GL_rd (v := v) (wn_none rfl) rfl (rd_assign rfl rfl) ?_
   refine GL_nil ?_
   refine GW_seq ?_
   refine GW_region ?_
   refine GL_rd (v := v) (wn_none rfl) rfl (rd_move rfl rfl) ?_
   refine GL_rd (v := .slice _ _ _) (wn_none rfl) rfl (rd_move rfl rfl) ?_
   refine GL_rd (v := .int _ _) (wn_none rfl) rfl (rd_move rfl rfl) ?_
   refine GL_rd (wn_none rfl) rfl (rd_indexS (j := i) rfl rfl rfl Try.underlying90 ts97 rfl (by omega) _ rfl) ?_
   refine GL_rd (wn_none rfl) rfl (rd_field rfl rfl fa97_1 _ rfl) ?_
   refine GL_rd (wn_none rfl) rfl (rd_load rfl rfl Try.underlying3 rfl ((hR.keep hp.mod).get _ _ (cl_cell (i := i) (j := 1) (by omega) rfl (by decide)))) ?_
   refine GL_rd (wn_none rfl) rfl (rd_convE (q := ((clAt l i).pd.toNat : Int)) rfl rfl Try.underlying165 Try.underlying3 (by simp) (by rw [IntWalk.u64_in _ (by omega)]; omega)) ?_
   refine GL_call (wn_none rfl) rfl rfl (ref_Put 6 (clAt l i).pd.toNat 6 _ (by omega) (by decide) rfl) rfl ?_
   intro q w hk
   have hp := hp.comp hk
   refine GL_append (i := 2) (wn_none rfl) rfl rfl rfl rfl Try.underlying42 ti5 rfl (by decide) hp rfl (Sl.row (hp.get 0 rfl)) (bys_one _) (by omega) (by omega) ?_
   intro v2 w hp
   refine GL_rd (v := v2) (wn_none rfl) rfl (rd_assign rfl rfl) ?_
   refine GL_nil ?_
   refine GW_seq ?_
   refine GW_region ?_
   refine GL_rd (v := .int _ _) (wn_none rfl) rfl (rd_assign rfl rfl) ?_
   refine GL_nil ?_
   refine GW_seq ?_
   refine GW_seq ?_
   refine GW_region ?_
   refine GL_rd (v := .slice _ _ _) (wn_none rfl) rfl (rd_move rfl rfl) ?_
   refine GL_rd (v := .int _ _) (wn_none rfl) rfl (rd_move rfl rfl) ?_
   refine GL_rd (wn_none rfl) rfl (rd_indexS (j := i) rfl rfl rfl Try.underlying90 ts97 rfl (by omega) _ rfl) ?_
   refine GL_rd (wn_none rfl) rfl (rd_field rfl rfl fa97_2 _ rfl) ?_
   refine GL_rd (wn_none rfl) rfl (rd_load rfl rfl Try.underlying4 rfl ((hR.keep hp.mod).get _ _ (cl_cell (i := i) (j := 2) (by omega) rfl (by decide)))) ?_
   refine GL_nil ?_
   refine GW_cond rfl (fun hb2 => ?_) (fun hb2 => ?_)
   ·(try simp only [decide_eq_true_eq, decide_eq_false_iff_not, Bool.not_eq_true', Bool.not_eq_false', Bool.not_eq_eq_eq_not, Bool.not_true, Bool.not_false, Int.not_lt, Int.not_le] at hb2)
    have hev : (clAt l i).ev = true := hb2
    refine GW_region ?_
    refine GL_rd (v := .int _ _) (wn_none rfl) rfl (rd_move rfl rfl) ?_
    refine GL_rd (wn_none rfl) rfl (rd_bin rfl rfl rfl (bo_int (q := 1) bo_add (by decide))) ?_
    refine GL_rd (v := .int _ _) (wn_none rfl) rfl (rd_assign rfl rfl) ?_
    refine GL_nil ?_
    refine GW_seq ?_
    refine GW_seq ?_
    refine GW_region ?_
    refine GL_rd (v := .slice _ _ _) (wn_none rfl) rfl (rd_move rfl rfl) ?_
    refine GL_rd (v := .int _ _) (wn_none rfl) rfl (rd_move rfl rfl) ?_
    refine GL_rd (wn_none rfl) rfl (rd_indexS (j := i) rfl rfl rfl Try.underlying90 ts97 rfl (by omega) _ rfl) ?_
    refine GL_rd (wn_none rfl) rfl (rd_field rfl rfl fa97_3 _ rfl) ?_
    refine GL_rd (wn_none rfl) rfl (rd_load rfl rfl Try.underlying4 rfl ((hR.keep hp.mod).get _ _ (cl_cell (i := i) (j := 3) (by omega) rfl (by decide)))) ?_
    refine GL_nil ?_
    refine GW_cond rfl (fun hb3 => ?_) (fun hb3 => ?_)
    ·(try simp only [decide_eq_true_eq, decide_eq_false_iff_not, Bool.not_eq_true', Bool.not_eq_false', Bool.not_eq_eq_eq_not, Bool.not_true, Bool.not_false, Int.not_lt, Int.not_le] at hb3)
     have hpr : (clAt l i).pr = true := hb3
     refine GW_region ?_
     refine GL_rd (v := .int _ _) (wn_none rfl) rfl (rd_move rfl rfl) ?_
     refine GL_rd (wn_none rfl) rfl (rd_bin rfl rfl rfl (bo_int (q := 3) bo_add (by decide))) ?_
     refine GL_rd (v := .int _ _) (wn_none rfl) rfl (rd_assign rfl rfl) ?_
     refine GL_nil ?_
     refine GW_region ?_
     refine GL_rd (v := v2) (wn_none rfl) rfl (rd_move rfl rfl) ?_
     refine GL_rd (v := .int _ _) (wn_none rfl) rfl (rd_move rfl rfl) ?_
     refine GL_lit (L := [.int .u8 3]) (wn_none rfl) rfl rfl Try.underlying42 ts5 tz5 rfl (by kernel_rfl) rfl rfl hp ?_
     intro g3 w hp
     refine GL_append (i := 3) (wn_none rfl) rfl rfl rfl rfl Try.underlying42 ti5 rfl (by decide) hp rfl (Sl.row (hp.get 0 rfl)) (one1 rfl) (by omega) (by omega) ?_
     intro v3 w hp
     refine GL_rd (v := v3) (wn_none rfl) rfl (rd_assign rfl rfl) ?_
     refine GL_nil ?_
     refine GW_region ?_
     refine GL_rd (v := .int _ _) (wn_none rfl) rfl (rd_move rfl rfl) ?_
     refine GL_rd (wn_none rfl) rfl (rd_bin rfl rfl rfl (bo_add64 (by omega))) ?_
     refine GL_rd (v := .int _ _) (wn_none rfl) rfl (rd_assign rfl rfl) ?_
     refine GL_nil ?_
     have hp := (((hp.front 4 rfl).front 4 rfl).take 2)
     have hfl : (3 : Int) = ((flagB (clAt l i).ev (clAt l i).pr).toNat : Int) := by rw [hev, hpr]; rfl
     have hp : Hp w0 [] w [.row 5 1 v3 (1 + 23 * (i + 1)) (bys (UInt8.ofNat l.length :: (l.take (i + 1)).flatMap clsB)), cells g 67 (List.replicate 256 (.int .u8 0))] := by rw [← cls_step (by omega) hfl]; rw [hpl] at hp; exact hp
     exact ihL0 (i + 1, v3) _ _ (by simp only []; omega) ⟨_, slots4 rfl rfl rfl rfl, hp, by omega⟩
    ·(try simp only [decide_eq_true_eq, decide_eq_false_iff_not, Bool.not_eq_true', Bool.not_eq_false', Bool.not_eq_eq_eq_not, Bool.not_true, Bool.not_false, Int.not_lt, Int.not_le] at hb3)
     have hpr : (clAt l i).pr = false := hb3
     refine GW_skip ?_
     refine GW_region ?_
     refine GL_rd (v := v2) (wn_none rfl) rfl (rd_move rfl rfl) ?_
     refine GL_rd (v := .int _ _) (wn_none rfl) rfl (rd_move rfl rfl) ?_
     refine GL_lit (L := [.int .u8 1]) (wn_none rfl) rfl rfl Try.underlying42 ts5 tz5 rfl (by kernel_rfl) rfl rfl hp ?_
     intro g4 w hp
     refine GL_append (i := 3) (wn_none rfl) rfl rfl rfl rfl Try.underlying42 ti5 rfl (by decide) hp rfl (Sl.row (hp.get 0 rfl)) (one1 rfl) (by omega) (by omega) ?_
     intro v4 w hp
     refine GL_rd (v := v4) (wn_none rfl) rfl (rd_assign rfl rfl) ?_
     refine GL_nil ?_
     refine GW_region ?_
     refine GL_rd (v := .int _ _) (wn_none rfl) rfl (rd_move rfl rfl) ?_
     refine GL_rd (wn_none rfl) rfl (rd_bin rfl rfl rfl (bo_add64 (by omega))) ?_
     refine GL_rd (v := .int _ _) (wn_none rfl) rfl (rd_assign rfl rfl) ?_
     refine GL_nil ?_
     have hp := (((hp.front 4 rfl).front 4 rfl).take 2)
     have hfl : (1 : Int) = ((flagB (clAt l i).ev (clAt l i).pr).toNat : Int) := by rw [hev, hpr]; rfl
     have hp : Hp w0 [] w [.row 5 1 v4 (1 + 23 * (i + 1)) (bys (UInt8.ofNat l.length :: (l.take (i + 1)).flatMap clsB)), cells g 67 (List.replicate 256 (.int .u8 0))] := by rw [← cls_step (by omega) hfl]; rw [hpl] at hp; exact hp
     exact ihL0 (i + 1, v4) _ _ (by simp only []; omega) ⟨_, slots4 rfl rfl rfl rfl, hp, by omega⟩
   ·(try simp only [decide_eq_true_eq, decide_eq_false_iff_not, Bool.not_eq_true', Bool.not_eq_false', Bool.not_eq_eq_eq_not, Bool.not_true, Bool.not_false, Int.not_lt, Int.not_le] at hb2)
    have hev : (clAt l i).ev = false := hb2
    refine GW_skip ?_
    refine GW_seq ?_
    refine GW_seq ?_
    refine GW_region ?_
    refine GL_rd (v := .slice _ _ _) (wn_none rfl) rfl (rd_move rfl rfl) ?_
    refine GL_rd (v := .int _ _) (wn_none rfl) rfl (rd_move rfl rfl) ?_
    refine GL_rd (wn_none rfl) rfl (rd_indexS (j := i) rfl rfl rfl Try.underlying90 ts97 rfl (by omega) _ rfl) ?_
    refine GL_rd (wn_none rfl) rfl (rd_field rfl rfl fa97_3 _ rfl) ?_
    refine GL_rd (wn_none rfl) rfl (rd_load rfl rfl Try.underlying4 rfl ((hR.keep hp.mod).get _ _ (cl_cell (i := i) (j := 3) (by omega) rfl (by decide)))) ?_
    refine GL_nil ?_
    refine GW_cond rfl (fun hb4 => ?_) (fun hb4 => ?_)
    ·(try simp only [decide_eq_true_eq, decide_eq_false_iff_not, Bool.not_eq_true', Bool.not_eq_false', Bool.not_eq_eq_eq_not, Bool.not_true, Bool.not_false, Int.not_lt, Int.not_le] at hb4)
     have hpr : (clAt l i).pr = true := hb4
     refine GW_region ?_
     refine GL_rd (v := .int _ _) (wn_none rfl) rfl (rd_move rfl rfl) ?_
     refine GL_rd (wn_none rfl) rfl (rd_bin rfl rfl rfl (bo_int (q := 2) bo_add (by decide))) ?_
     refine GL_rd (v := .int _ _) (wn_none rfl) rfl (rd_assign rfl rfl) ?_
     refine GL_nil ?_
     refine GW_region ?_
     refine GL_rd (v := v2) (wn_none rfl) rfl (rd_move rfl rfl) ?_
     refine GL_rd (v := .int _ _) (wn_none rfl) rfl (rd_move rfl rfl) ?_
     refine GL_lit (L := [.int .u8 2]) (wn_none rfl) rfl rfl Try.underlying42 ts5 tz5 rfl (by kernel_rfl) rfl rfl hp ?_
     intro g5 w hp
     refine GL_append (i := 3) (wn_none rfl) rfl rfl rfl rfl Try.underlying42 ti5 rfl (by decide) hp rfl (Sl.row (hp.get 0 rfl)) (one1 rfl) (by omega) (by omega) ?_
     intro v5 w hp
     refine GL_rd (v := v5) (wn_none rfl) rfl (rd_assign rfl rfl) ?_
     refine GL_nil ?_
     refine GW_region ?_
     refine GL_rd (v := .int _ _) (wn_none rfl) rfl (rd_move rfl rfl) ?_
     refine GL_rd (wn_none rfl) rfl (rd_bin rfl rfl rfl (bo_add64 (by omega))) ?_
     refine GL_rd (v := .int _ _) (wn_none rfl) rfl (rd_assign rfl rfl) ?_
     refine GL_nil ?_
     have hp := (((hp.front 4 rfl).front 4 rfl).take 2)
     have hfl : (2 : Int) = ((flagB (clAt l i).ev (clAt l i).pr).toNat : Int) := by rw [hev, hpr]; rfl
     have hp : Hp w0 [] w [.row 5 1 v5 (1 + 23 * (i + 1)) (bys (UInt8.ofNat l.length :: (l.take (i + 1)).flatMap clsB)), cells g 67 (List.replicate 256 (.int .u8 0))] := by rw [← cls_step (by omega) hfl]; rw [hpl] at hp; exact hp
     exact ihL0 (i + 1, v5) _ _ (by simp only []; omega) ⟨_, slots4 rfl rfl rfl rfl, hp, by omega⟩
    ·(try simp only [decide_eq_true_eq, decide_eq_false_iff_not, Bool.not_eq_true', Bool.not_eq_false', Bool.not_eq_eq_eq_not, Bool.not_true, Bool.not_false, Int.not_lt, Int.not_le] at hb4)
     have hpr : (clAt l i).pr = false := hb4
     refine GW_skip ?_
     refine GW_region ?_
     refine GL_rd (v := v2) (wn_none rfl) rfl (rd_move rfl rfl) ?_
     refine GL_rd (v := .int _ _) (wn_none rfl) rfl (rd_move rfl rfl) ?_
     refine GL_lit (L := [.int .u8 0]) (wn_none rfl) rfl rfl Try.underlying42 ts5 tz5 rfl (by kernel_rfl) rfl rfl hp ?_
     intro g6 w hp
     refine GL_append (i := 3) (wn_none rfl) rfl rfl rfl rfl Try.underlying42 ti5 rfl (by decide) hp rfl (Sl.row (hp.get 0 rfl)) (one1 rfl) (by omega) (by omega) ?_
     intro v6 w hp
     refine GL_rd (v := v6) (wn_none rfl) rfl (rd_assign rfl rfl) ?_
     refine GL_nil ?_
     refine GW_region ?_
     refine GL_rd (v := .int _ _) (wn_none rfl) rfl (rd_move rfl rfl) ?_
     refine GL_rd (wn_none rfl) rfl (rd_bin rfl rfl rfl (bo_add64 (by omega))) ?_
     refine GL_rd (v := .int _ _) (wn_none rfl) rfl (rd_assign rfl rfl) ?_
     refine GL_nil ?_
     have hp := (((hp.front 4 rfl).front 4 rfl).take 2)
     have hfl : (0 : Int) = ((flagB (clAt l i).ev (clAt l i).pr).toNat : Int) := by rw [hev, hpr]; rfl
     have hp : Hp w0 [] w [.row 5 1 v6 (1 + 23 * (i + 1)) (bys (UInt8.ofNat l.length :: (l.take (i + 1)).flatMap clsB)), cells g 67 (List.replicate 256 (.int .u8 0))] := by rw [← cls_step (by omega) hfl]; rw [hpl] at hp; exact hp
     exact ihL0 (i + 1, v6) _ _ (by simp only []; omega) ⟨_, slots4 rfl rfl rfl rfl, hp, by omega⟩
  ·(try simp only [decide_eq_true_eq, decide_eq_false_iff_not, Bool.not_eq_true', Bool.not_eq_false', Bool.not_eq_eq_eq_not, Bool.not_true, Bool.not_false, Int.not_lt, Int.not_le] at hb)
   obtain rfl : i = l.length := by omega
   rw [List.take_of_length_le (Nat.le_refl _)] at hp
   refine GW_exit ?_
   refine GW_seq ?_
   refine GW_region ?_
   refine GL_rd (v := v) (wn_none rfl) rfl (rd_move rfl rfl) ?_
   refine GL_call (wn_none rfl) rfl rfl (ref_Sealed _ _ (clssB l) _ (Sl.row (hp.get 0 rfl)) (by omega)) rfl ?_
   rintro _ w ⟨rfl, hk⟩
   have hp := hp.comp hk
   refine GL_store (i := 1) (wn_none rfl) rfl rfl rfl rfl ts67 rfl (by rw [bys_length, secL_length]) (bys_one _) hp rfl (by rw [List.length_replicate]; omega) (splice_all _ _ (by rw [bys_length, secL_length, List.length_replicate])) ?_
   intro w hp
   refine GL_nil ?_
   refine GW_ret ?_
   exact ⟨_, res1 Try.results71 (rv_cell rfl rfl Try.underlying67 rfl ts67 (by first | rw [bys_length, clsS_length] | rw [bys_length, secL_length] | exact List.length_replicate) (hp.get 1 rfl)), rfl, hp.mods⟩
 ·refine ⟨_, slots4 rfl rfl rfl rfl, hp, Nat.zero_le _⟩

set_option maxHeartbeats 1000000 in
theorem cl_Read (x : List UInt8) (w0 : World) (hx : x.length = 256) : Does Try.prog 69 #[.agg ⟨bys x⟩] w0 fun v w' => (v = .tuple #[.pointer none, .int .i64 5] ∧ Hp w0 [] w' [] ∧ NoCls x) ∨ ∃ g2 m2 sv2 l, v = .tuple #[.pointer (some ⟨g2, 0, none⟩), .int .i64 0] ∧ ClsOk l ∧ clsS l = x ∧ Hp w0 [] w' [cells g2 180 [sv2, .map (some m2)], .row 97 4 sv2 l.length (l.flatMap clC), .blk m2 (.map ⟨mapE 0 l⟩ l.length)] := by
 have hN := clN_lt x
 refine does_of (l := [.agg ⟨bys x⟩]) Try.func69 (by kernel_rfl) rfl Try.ntmps69 rfl rfl ?_
 have hp := Hp.refl w0 []
 refine GW_seq ?_
 refine GW_region ?_
 refine GL_box (wn_none rfl) rfl rfl rfl rfl hp ?_
 intro g w hp
 refine GL_rd (v := _) (wn_none rfl) rfl (rd_assign rfl rfl) ?_
 refine GL_rd (v := .int _ _) (wn_none rfl) rfl (rd_assign rfl rfl) ?_
 refine GL_nil ?_
 refine GW_seq ?_
 refine GW_region ?_
 refine GL_rd (wn_none rfl) rfl (rd_sliceA (lo := 0) (hi := 252) rfl rfl Try.underlying67 ts5 at_none (at_some rfl rfl) (by decide) (by decide) (by decide) _ rfl) ?_
 refine GL_call (wn_none rfl) rfl rfl (word_From _ _ _ _) rfl ?_
 rintro _ w ⟨p, rfl, hk⟩
 have hp := hp.comp hk
 refine GL_rd (v := .pointer (some ⟨_, _, none⟩)) (wn_none rfl) rfl (rd_assign rfl rfl) ?_
 refine GL_nil ?_
 refine GW_seq ?_
 refine GW_region ?_
 refine GL_call (wn_none rfl) rfl rfl (cl_New _) rfl ?_
 rintro _ w ⟨g9, m9, rfl, hk⟩
 have hp := hp.comp hk
 have hp := hp.nilRow 97 4
 refine GL_rd (v := .pointer (some ⟨_, _, none⟩)) (wn_none rfl) rfl (rd_assign rfl rfl) ?_
 refine GL_nil ?_
 refine GW_seq ?_
 refine GW_seq ?_
 refine GW_region ?_
 refine GL_rd (wn_none rfl) rfl (rd_sliceA (lo := 0) (hi := 256) rfl rfl Try.underlying67 ts5 at_none to_none (by decide) (by decide) (by decide) _ rfl) ?_
 refine GL_call (wn_none rfl) rfl rfl (crc_Holds _ 256 x _ (Sl.cells (hp.get 4 rfl) 1 256 256 0 (bys x) (by rw [List.drop_zero, List.take_of_length_le (by rw [bys_length, hx]; decide)]) (by rw [bys_length, hx]; decide) (by decide) (by decide))) rfl ?_
 rintro _ w ⟨rfl, hk⟩
 have hp := hp.comp hk
 refine GL_rd (wn_none rfl) rfl (rd_not rfl rfl) ?_
 refine GL_nil ?_
 refine GW_cond rfl (fun hb => ?_) (fun hb => ?_)
 ·(try simp only [decide_eq_true_eq, decide_eq_false_iff_not, Bool.not_eq_true', Bool.not_eq_false', Bool.not_eq_eq_eq_not, Bool.not_true, Bool.not_false, Int.not_lt, Int.not_le] at hb)
  have hh : ¬ holdsL x = true := by have := hb; simp [this]
  refine GW_seq ?_
  refine GW_region ?_
  refine GL_rd (v := _) (wn_none rfl) rfl (rd_assign rfl rfl) ?_
  refine GL_rd (v := .int _ _) (wn_none rfl) rfl (rd_assign rfl rfl) ?_
  refine GL_nil ?_
  refine GW_ret ?_
  exact ⟨_, res2 Try.results69 (rv_tmp (v := _) rfl rfl) (rv_tmp (v := .int _ _) rfl rfl), .inl ⟨rfl, hp.mods, no_hold hh⟩⟩
 ·(try simp only [decide_eq_true_eq, decide_eq_false_iff_not, Bool.not_eq_true', Bool.not_eq_false', Bool.not_eq_eq_eq_not, Bool.not_true, Bool.not_false, Int.not_lt, Int.not_le] at hb)
  have hh : holdsL x = true := hb
  refine GW_skip ?_
  refine GW_seq ?_
  refine GW_seq ?_
  refine GW_region ?_
  refine GL_rd (v := .pointer (some ⟨_, _, none⟩)) (wn_none rfl) rfl (rd_move rfl rfl) ?_
  refine GL_call (wn_none rfl) rfl rfl (cur_Num p _ (x.take 252) (false) 1 _ (hp.get 3 rfl) (fun w' h => (Sl.cellsB (hp.stayAt 3 4 rfl rfl (by decide) h) (by rw [hx]; decide) (by decide) (by decide))) (by simp only [List.length_drop, List.length_take, hx]; omega)) rfl ?_
  rintro _ w ⟨bv, hsuf, rfl, hk⟩
  have hp := hp.turnAtMore 3 rfl hk
  have st1 : curOk false (x.take 252) 1 = true ∧ curOut false (x.take 252) 1 = (x.take 252).take 1 ∧ curL false (x.take 252) 1 = (x.take 252).drop 1 := cur_step (x.take 252) 1 (by simp only [List.length_drop, List.length_take, hx]; omega)
  rw [st1.2.2] at hsuf
  rw [st1.1, Bool.not_true] at hp
  rw [show curNum false (x.take 252) 1 = getL ((x.take 252).take 1) from num_step (x.take 252) 1 (by simp only [List.length_drop, List.length_take, hx]; omega) (by decide)]
  rw [show getL ((x.take 252).take 1) = clN x from rfl]
  refine GL_rd (wn_none rfl) rfl (rd_convE (q := (clN x : Int)) rfl rfl Try.underlying3 Try.underlying165 (by simp) (IntWalk.i64_in _ (by omega))) ?_
  refine GL_rd (v := .int _ _) (wn_none rfl) rfl (rd_move rfl rfl) ?_
  refine GL_nil ?_
  refine GW_block ?_
  refine GW_loop ?_
  refine Lp_ind (α := Nat × List Cls × Value × Value) (fun a_0 f_0 w' => match a_0 with | (i, l, sv2, bv) => ∃ fz, f_0 = (upd (upd (upd (upd fz 4 (.pointer (some ⟨p, 0, none⟩))) 5 (.pointer (some ⟨g9, 0, none⟩))) 16 (.int .i64 (clN x : Int))) 17 (.int .i64 (i : Int))) ∧ Hp w0 [] w' [cells g9 180 [sv2, .map (some m9)], .row 97 4 sv2 l.length (l.flatMap clC), .blk m9 (.map ⟨mapE 0 l⟩ l.length), cells p 229 [bv, .bool false], cells g 67 (bys x)] ∧ (i ≤ clN x) ∧ (ClsOk l) ∧ (l.length = i) ∧ (l.flatMap clsB = (clBody x).take (23 * i)) ∧ (Suf (.slice (some ⟨g, 0, none⟩) 252 256) (x.take 252) bv ((clBody x).drop (23 * i)))) (fun a_0 => match a_0 with | (i, l, sv2, bv) => clN x - i) ?_ (0, [], .slice none 0 0, bv) _ _ ?_
  ·rintro ⟨i, l, sv2, bv⟩ f wz ⟨fz, rfl, hp, hiN, hok, hll, hB, hsufL⟩ ihL0
   refine Lp_round ?_
   refine GW_seq ?_
   refine GW_region ?_
   refine GL_rd (wn_none rfl) rfl (rd_bin rfl rfl rfl bo_lss) ?_
   refine GL_nil ?_
   refine GW_seq ?_
   refine GW_cond rfl (fun hb2 => ?_) (fun hb2 => ?_)
   ·(try simp only [decide_eq_true_eq, decide_eq_false_iff_not, Bool.not_eq_true', Bool.not_eq_false', Bool.not_eq_eq_eq_not, Bool.not_true, Bool.not_false, Int.not_lt, Int.not_le] at hb2)
    have hi : i < clN x := by omega
    have h8 := hok.1
    have hRl : ((clBody x).drop (23 * i)).length = 251 - 23 * i := by rw [List.length_drop, clBody_length hx]
    refine GW_skip ?_
    refine GW_seq ?_
    refine GW_block ?_
    refine GW_cut (fun f_0 w' => ∃ (gc : Nat) (bv2 : Value) (nm : ByteArray) (pd : Int) (bd : Bool) (r2 : List UInt8) (fz : _), f_0 = (upd (upd (upd (upd (upd fz 4 (.pointer (some ⟨p, 0, none⟩))) 5 (.pointer (some ⟨g9, 0, none⟩))) 6 (.pointer (some ⟨gc, 0, none⟩))) 16 (.int .i64 (clN x : Int))) 17 (.int .i64 (i : Int))) ∧ Hp w0 [] w' [cells gc 97 [.string nm, .int .i64 pd, .bool false, .bool false], cells g9 180 [sv2, .map (some m9)], .row 97 4 sv2 l.length (l.flatMap clC), .blk m9 (.map ⟨mapE 0 l⟩ l.length), cells p 229 [bv2, .bool bd], cells g 67 (bys x)] ∧ (Suf (.slice (some ⟨g, 0, none⟩) 252 256) (x.take 252) bv2 r2) ∧ ((bd = false ∧ unpadOk (((clBody x).drop (23 * i)).take 16) = true ∧ nm = ⟨(unpadL (((clBody x).drop (23 * i)).take 16)).toArray⟩ ∧ pd = (getL ((((clBody x).drop (23 * i)).drop 16).take 6) : Int) ∧ r2 = (((clBody x).drop (23 * i)).drop 16).drop 6) ∨ (bd = true ∧ unpadOk (((clBody x).drop (23 * i)).take 16) = false ∧ r2 = ((clBody x).drop (23 * i)).drop 16))) ?_ ?_
    ·skip
     cases hu : unpadOk (((clBody x).drop (23 * i)).take 16) with
     | false =>
      refine GW_region ?_
      refine GL_rd (v := .pointer (some ⟨_, _, none⟩)) (wn_none rfl) rfl (rd_move rfl rfl) ?_
      refine GL_call (wn_none rfl) rfl rfl (cur_Text p _ (((clBody x).drop (23 * i))) (false) 16 _ (hp.get 3 rfl) (fun w' h => (hsufL w' (Sl.cellsB (hp.stayAt 3 4 rfl rfl (by decide) h) (by rw [hx]; decide) (by decide) (by decide)))) (by simp only [List.length_drop, clBody_length hx]; omega)) rfl ?_
      rintro _ w ⟨bv2, hsuf2, rfl, hk⟩
      have hp := hp.turnAtMore 3 rfl hk
      have st1 : curOk false (((clBody x).drop (23 * i))) 16 = true ∧ curOut false (((clBody x).drop (23 * i))) 16 = (((clBody x).drop (23 * i))).take 16 ∧ curL false (((clBody x).drop (23 * i))) 16 = (((clBody x).drop (23 * i))).drop 16 := cur_step (((clBody x).drop (23 * i))) 16 (by simp only [List.length_drop, clBody_length hx]; omega)
      rw [st1.2.2] at hsuf2
      rw [show curTextBad false (((clBody x).drop (23 * i))) 16 = true from by rw [curTextBad, st1.1, st1.2.1, hu]; rfl] at hp
      rw [show curText false (((clBody x).drop (23 * i))) 16 = unpadL ((((clBody x).drop (23 * i))).take 16) from by rw [curText, st1.2.1]]
      refine GL_rd (v := .pointer (some ⟨_, _, none⟩)) (wn_none rfl) rfl (rd_move rfl rfl) ?_
      refine GL_call (wn_none rfl) rfl rfl (cur_Num p _ (((clBody x).drop (23 * i)).drop 16) (true) 6 _ (hp.get 0 rfl) (fun w' h => (hsuf2 w' (hsufL w' (Sl.cellsB (hp.stayAt 0 4 rfl rfl (by decide) h) (by rw [hx]; decide) (by decide) (by decide))))) (by simp only [List.length_drop, clBody_length hx]; omega)) rfl ?_
      rintro _ w ⟨bv3, hsuf3, rfl, hk⟩
      have hp := hp.turnAtMore 0 rfl hk
      rw [(cur_no (curOk_true _ _)).2] at hsuf3
      rw [curOk_true, Bool.not_false] at hp
      rw [curNum_true]
      refine GL_rd (wn_none rfl) rfl (rd_convE (q := 0) rfl rfl Try.underlying3 Try.underlying165 (by simp) (by decide)) ?_
      refine GL_rd (wn_none rfl) rfl (rd_buildS (L := [.string ⟨(unpadL (((clBody x).drop (23 * i)).take 16)).toArray⟩, .int .i64 0, .bool false, .bool false]) rfl tz97 pl97 (by kernel_rfl)) ?_
      refine GL_alloc (wn_none rfl) rfl rfl tz97 rfl hp ?_
      intro g2 w hp
      refine GL_store (i := 0) (wn_none rfl) rfl rfl rfl rfl ts97 rfl rfl (oneC rfl (oneC rfl (oneC rfl (one1 rfl)))) hp rfl (by decide) rfl ?_
      intro w hp
      refine GL_nil ?_
      have hp := (((((((hp.front 5 rfl).front 2 rfl).front 5 rfl).front 5 rfl).front 5 rfl).front 5 rfl).take 6)
      exact ⟨g2, bv3, ⟨(unpadL (((clBody x).drop (23 * i)).take 16)).toArray⟩, 0, true, ((clBody x).drop (23 * i)).drop 16, _, slots5 rfl rfl rfl rfl rfl, hp, (hsufL.trans (hsuf2.trans hsuf3)), .inr ⟨rfl, rfl, rfl⟩⟩
     | true =>
      refine GW_region ?_
      refine GL_rd (v := .pointer (some ⟨_, _, none⟩)) (wn_none rfl) rfl (rd_move rfl rfl) ?_
      refine GL_call (wn_none rfl) rfl rfl (cur_Text p _ (((clBody x).drop (23 * i))) (false) 16 _ (hp.get 3 rfl) (fun w' h => (hsufL w' (Sl.cellsB (hp.stayAt 3 4 rfl rfl (by decide) h) (by rw [hx]; decide) (by decide) (by decide)))) (by simp only [List.length_drop, clBody_length hx]; omega)) rfl ?_
      rintro _ w ⟨bv4, hsuf4, rfl, hk⟩
      have hp := hp.turnAtMore 3 rfl hk
      have st1 : curOk false (((clBody x).drop (23 * i))) 16 = true ∧ curOut false (((clBody x).drop (23 * i))) 16 = (((clBody x).drop (23 * i))).take 16 ∧ curL false (((clBody x).drop (23 * i))) 16 = (((clBody x).drop (23 * i))).drop 16 := cur_step (((clBody x).drop (23 * i))) 16 (by simp only [List.length_drop, clBody_length hx]; omega)
      rw [st1.2.2] at hsuf4
      rw [show curTextBad false (((clBody x).drop (23 * i))) 16 = false from by rw [curTextBad, st1.1, st1.2.1, hu]; rfl] at hp
      rw [show curText false (((clBody x).drop (23 * i))) 16 = unpadL ((((clBody x).drop (23 * i))).take 16) from by rw [curText, st1.2.1]]
      refine GL_rd (v := .pointer (some ⟨_, _, none⟩)) (wn_none rfl) rfl (rd_move rfl rfl) ?_
      refine GL_call (wn_none rfl) rfl rfl (cur_Num p _ (((clBody x).drop (23 * i)).drop 16) (false) 6 _ (hp.get 0 rfl) (fun w' h => (hsuf4 w' (hsufL w' (Sl.cellsB (hp.stayAt 0 4 rfl rfl (by decide) h) (by rw [hx]; decide) (by decide) (by decide))))) (by simp only [List.length_drop, clBody_length hx]; omega)) rfl ?_
      rintro _ w ⟨bv5, hsuf5, rfl, hk⟩
      have hp := hp.turnAtMore 0 rfl hk
      have st1 : curOk false (((clBody x).drop (23 * i)).drop 16) 6 = true ∧ curOut false (((clBody x).drop (23 * i)).drop 16) 6 = (((clBody x).drop (23 * i)).drop 16).take 6 ∧ curL false (((clBody x).drop (23 * i)).drop 16) 6 = (((clBody x).drop (23 * i)).drop 16).drop 6 := cur_step (((clBody x).drop (23 * i)).drop 16) 6 (by simp only [List.length_drop, clBody_length hx]; omega)
      rw [st1.2.2] at hsuf5
      rw [st1.1, Bool.not_true] at hp
      rw [show curNum false (((clBody x).drop (23 * i)).drop 16) 6 = getL ((((clBody x).drop (23 * i)).drop 16).take 6) from num_step (((clBody x).drop (23 * i)).drop 16) 6 (by simp only [List.length_drop, clBody_length hx]; omega) (by decide)]
      refine GL_rd (wn_none rfl) rfl (rd_convE (q := (getL ((((clBody x).drop (23 * i)).drop 16).take 6) : Int)) rfl rfl Try.underlying3 Try.underlying165 (by simp) (IntWalk.i64_in _ (by have := clP_lt ((clBody x).drop (23 * i)); omega))) ?_
      refine GL_rd (wn_none rfl) rfl (rd_buildS (L := [.string ⟨(unpadL (((clBody x).drop (23 * i)).take 16)).toArray⟩, .int .i64 (getL ((((clBody x).drop (23 * i)).drop 16).take 6) : Int), .bool false, .bool false]) rfl tz97 pl97 (by kernel_rfl)) ?_
      refine GL_alloc (wn_none rfl) rfl rfl tz97 rfl hp ?_
      intro g3 w hp
      refine GL_store (i := 0) (wn_none rfl) rfl rfl rfl rfl ts97 rfl rfl (oneC rfl (oneC rfl (oneC rfl (one1 rfl)))) hp rfl (by decide) rfl ?_
      intro w hp
      refine GL_nil ?_
      have hp := (((((((hp.front 5 rfl).front 2 rfl).front 5 rfl).front 5 rfl).front 5 rfl).front 5 rfl).take 6)
      exact ⟨g3, bv5, ⟨(unpadL (((clBody x).drop (23 * i)).take 16)).toArray⟩, (getL ((((clBody x).drop (23 * i)).drop 16).take 6) : Int), false, (((clBody x).drop (23 * i)).drop 16).drop 6, _, slots5 rfl rfl rfl rfl rfl, hp, (hsufL.trans (hsuf4.trans hsuf5)), .inl ⟨rfl, rfl, rfl, rfl, rfl⟩⟩
    ·rintro f w ⟨gc, bv2, nm, pd, bd, r2, fz, rfl, hp, hsufC, hcs⟩
     refine GW_seq ?_
     rcases hcs with ⟨rfl, hu, rfl, rfl, rfl⟩ | ⟨rfl, hu, rfl⟩
     ·skip
      refine GW_region ?_
      refine GL_rd (v := .pointer (some ⟨_, _, none⟩)) (wn_none rfl) rfl (rd_move rfl rfl) ?_
      refine GL_call (wn_none rfl) rfl rfl (cur_Num p _ ((((clBody x).drop (23 * i)).drop 16).drop 6) (false) 1 _ (hp.get 4 rfl) (fun w' h => (hsufC w' (Sl.cellsB (hp.stayAt 4 5 rfl rfl (by decide) h) (by rw [hx]; decide) (by decide) (by decide)))) (by simp only [List.length_drop, clBody_length hx]; omega)) rfl ?_
      rintro _ w ⟨bv6, hsuf6, rfl, hk⟩
      have hp := hp.turnAtMore 4 rfl hk
      have st1 : curOk false ((((clBody x).drop (23 * i)).drop 16).drop 6) 1 = true ∧ curOut false ((((clBody x).drop (23 * i)).drop 16).drop 6) 1 = ((((clBody x).drop (23 * i)).drop 16).drop 6).take 1 ∧ curL false ((((clBody x).drop (23 * i)).drop 16).drop 6) 1 = ((((clBody x).drop (23 * i)).drop 16).drop 6).drop 1 := cur_step ((((clBody x).drop (23 * i)).drop 16).drop 6) 1 (by simp only [List.length_drop, clBody_length hx]; omega)
      rw [st1.2.2] at hsuf6
      rw [st1.1, Bool.not_true] at hp
      rw [show curNum false ((((clBody x).drop (23 * i)).drop 16).drop 6) 1 = getL (((((clBody x).drop (23 * i)).drop 16).drop 6).take 1) from num_step ((((clBody x).drop (23 * i)).drop 16).drop 6) 1 (by simp only [List.length_drop, clBody_length hx]; omega) (by decide)]
      rw [clF_get (by simp only [List.length_drop, clBody_length hx]; omega)]
      refine GL_rd (v := .int _ _) (wn_none rfl) rfl (rd_assign rfl rfl) ?_
      refine GL_nil ?_
      refine GW_seq ?_
      refine GW_region ?_
      refine GL_rd (v := .int _ _) (wn_none rfl) rfl (rd_move rfl rfl) ?_
      refine GL_rd (wn_none rfl) rfl (rd_bin rfl rfl rfl (bo_andB (clF ((clBody x).drop (23 * i))) 1 (by decide))) ?_
      refine GL_rd (wn_none rfl) rfl (rd_bin rfl rfl rfl bo_eql) ?_
      refine GL_rd (v := .int _ _) (wn_none rfl) rfl (rd_move rfl rfl) ?_
      refine GL_rd (wn_none rfl) rfl (rd_bin rfl rfl rfl (bo_andB (clF ((clBody x).drop (23 * i))) 2 (by decide))) ?_
      refine GL_rd (wn_none rfl) rfl (rd_bin rfl rfl rfl bo_eql) ?_
      refine GL_rd (wn_none rfl) rfl (rd_field rfl rfl fa97_2 _ rfl) ?_
      refine GL_store (i := 1) (wn_none rfl) rfl rfl rfl rfl ts4 rfl rfl (one1 rfl) hp rfl (by first | exact Nat.le_of_ble_eq_true rfl | simp [bys_length, *]) rfl ?_
      intro w hp
      refine GL_rd (wn_none rfl) rfl (rd_field rfl rfl fa97_3 _ rfl) ?_
      refine GL_store (i := 1) (wn_none rfl) rfl rfl rfl rfl ts4 rfl rfl (one1 rfl) hp rfl (by first | exact Nat.le_of_ble_eq_true rfl | simp [bys_length, *]) rfl ?_
      intro w hp
      refine GL_nil ?_
      refine GW_seq ?_
      refine GW_region ?_
      refine GL_rd (v := .int _ _) (wn_none rfl) rfl (rd_move rfl rfl) ?_
      refine GL_rd (wn_none rfl) rfl (rd_bin rfl rfl rfl bo_gtr) ?_
      refine GL_rd (v := .bool _) (wn_none rfl) rfl (rd_move rfl rfl) ?_
      refine GL_split (t := 37) (b := _) rfl ?_ ?_
      ·intro hb3; (try simp only [decide_eq_true_eq, decide_eq_false_iff_not, Bool.not_eq_true', Bool.not_eq_false', Bool.not_eq_eq_eq_not, Bool.not_true, Bool.not_false, Int.not_lt, Int.not_le] at hb3)
       have hF : ¬ (clF ((clBody x).drop (23 * i))).toNat ≤ 3 := by have := hb3; omega
       refine GL_pass (nw_off rfl rfl rfl rfl rfl) rfl ?_
       refine GL_pass (nw_off rfl rfl rfl rfl rfl) rfl ?_
       refine GL_pass (nw_off rfl rfl rfl rfl rfl) rfl ?_
       refine GL_rd (v := .bool _) (wn_none rfl) rfl (rd_pickT rfl rfl rfl) ?_
       refine GL_rd (v := .bool _) (wn_none rfl) rfl (rd_move rfl rfl) ?_
       refine GL_pass (nw_off rfl rfl rfl rfl rfl) rfl ?_
       refine GL_pass (nw_off rfl rfl rfl rfl rfl) rfl ?_
       refine GL_pass (nw_off rfl rfl rfl rfl rfl) rfl ?_
       refine GL_pass (nw_off rfl rfl rfl rfl rfl) rfl ?_
       refine GL_rd (v := .bool _) (wn_none rfl) rfl (rd_pickT rfl rfl rfl) ?_
       refine GL_nil ?_
       refine GW_true rfl ?_
       refine GW_seq ?_
       refine GW_region ?_
       refine GL_rd (v := _) (wn_none rfl) rfl (rd_assign rfl rfl) ?_
       refine GL_rd (v := .int _ _) (wn_none rfl) rfl (rd_assign rfl rfl) ?_
       refine GL_nil ?_
       refine GW_ret ?_
       exact ⟨_, res2 Try.results69 (rv_tmp (v := _) rfl rfl) (rv_tmp (v := .int _ _) rfl rfl), .inl ⟨rfl, hp.mods, no_flag hi hF⟩⟩
      ·intro hb3; (try simp only [decide_eq_true_eq, decide_eq_false_iff_not, Bool.not_eq_true', Bool.not_eq_false', Bool.not_eq_eq_eq_not, Bool.not_true, Bool.not_false, Int.not_lt, Int.not_le] at hb3)
       have hF : (clF ((clBody x).drop (23 * i))).toNat ≤ 3 := by have := hb3; omega
       refine GL_rd (v := .pointer (some ⟨_, _, none⟩)) (wn_on rfl rfl rfl rfl) rfl (rd_move rfl rfl) ?_
       refine GL_call (wn_on rfl rfl rfl rfl) rfl rfl (cur_Right p _ (((((clBody x).drop (23 * i)).drop 16).drop 6).drop 1) (false) _ (hp.get 0 rfl) (fun w' h => (hsuf6 w' (hsufC w' (Sl.cellsB (hp.stayAt 0 5 rfl rfl (by decide) h) (by rw [hx]; decide) (by decide) (by decide)))))) rfl ?_
       rintro _ w ⟨rfl, hk⟩
       have hp := hp.comp hk
       refine GL_rd (wn_on rfl rfl rfl rfl) rfl (rd_not rfl rfl) ?_
       refine GL_rd (v := .bool _) (wn_none rfl) rfl (rd_pickF rfl rfl rfl) ?_
       refine GL_rd (v := .bool _) (wn_none rfl) rfl (rd_move rfl rfl) ?_
       refine GL_rd (v := .pointer (some ⟨_, _, none⟩)) (wn_on rfl rfl rfl rfl) rfl (rd_move rfl rfl) ?_
       refine GL_rd (wn_on rfl rfl rfl rfl) rfl (rd_loadC rfl rfl Try.underlying97 rfl ts97 (hp.get 1 rfl) rfl) ?_
       have hp := (((hp.front 4 rfl).front 4 rfl).front 4 rfl)
       refine GL_call (wn_on rfl rfl rfl rfl) rfl rfl (cl_Add g9 m9 _ _ l _ (clY ((clBody x).drop (23 * i))) _ (by omega) (clY_size _) (hp.ownsT 3)) rfl ?_
       rintro _ w ⟨rfl, sv3, hk⟩
       have hp := hp.turnsT 3 hk
       refine GL_rd (wn_on rfl rfl rfl rfl) rfl (rd_bin rfl rfl rfl bo_neq) ?_
       refine GL_rd (v := .bool _) (wn_none rfl) rfl (rd_pickF rfl rfl rfl) ?_
       refine GL_nil ?_
       refine GW_cond rfl (fun hb4 => ?_) (fun hb4 => ?_)
       ·(try simp only [decide_eq_true_eq, decide_eq_false_iff_not, Bool.not_eq_true', Bool.not_eq_false', Bool.not_eq_eq_eq_not, Bool.not_true, Bool.not_false, Int.not_lt, Int.not_le] at hb4)
        have hna := hb4
        refine GW_seq ?_
        refine GW_region ?_
        refine GL_rd (v := _) (wn_none rfl) rfl (rd_assign rfl rfl) ?_
        refine GL_rd (v := .int _ _) (wn_none rfl) rfl (rd_assign rfl rfl) ?_
        refine GL_nil ?_
        refine GW_ret ?_
        exact ⟨_, res2 Try.results69 (rv_tmp (v := _) rfl rfl) (rv_tmp (v := .int _ _) rfl rfl), .inl ⟨rfl, hp.mods, no_add hi hok hB hna⟩⟩
       ·(try simp only [decide_eq_true_eq, decide_eq_false_iff_not, Bool.not_eq_true', Bool.not_eq_false', Bool.not_eq_eq_eq_not, Bool.not_true, Bool.not_false, Int.not_lt, Int.not_le] at hb4)
        have hadd := hb4
        refine GW_skip ?_
        refine GW_region ?_
        refine GL_rd (wn_none rfl) rfl (rd_bin rfl rfl rfl (bo_add64 (by omega))) ?_
        refine GL_rd (v := .int _ _) (wn_none rfl) rfl (rd_move rfl rfl) ?_
        refine GL_nil ?_
        have hp := ((((((hp.front 5 rfl).front 4 rfl).front 4 rfl).front 4 rfl).front 4 rfl).take 5)
        exact ihL0 (i + 1, claL l (clY ((clBody x).drop (23 * i))), sv3, bv6) _ _ (by simp only []; omega) ⟨_, slots4 rfl rfl rfl rfl, hp, by omega, hok.add _, by rw [claL_yes hadd, List.length_append, hll]; rfl, body_step hadd hB (cly_yes (by simp only [List.length_drop, clBody_length hx]; omega) hu hF), by rw [drop23]; exact (hsufC.trans hsuf6)⟩
     ·skip
      refine GW_region ?_
      refine GL_rd (v := .pointer (some ⟨_, _, none⟩)) (wn_none rfl) rfl (rd_move rfl rfl) ?_
      refine GL_call (wn_none rfl) rfl rfl (cur_Num p _ (((clBody x).drop (23 * i)).drop 16) (true) 1 _ (hp.get 4 rfl) (fun w' h => (hsufC w' (Sl.cellsB (hp.stayAt 4 5 rfl rfl (by decide) h) (by rw [hx]; decide) (by decide) (by decide)))) (by simp only [List.length_drop, clBody_length hx]; omega)) rfl ?_
      rintro _ w ⟨bv7, hsuf7, rfl, hk⟩
      have hp := hp.turnAtMore 4 rfl hk
      rw [(cur_no (curOk_true _ _)).2] at hsuf7
      rw [curOk_true, Bool.not_false] at hp
      rw [curNum_true]
      refine GL_rd (v := .int _ _) (wn_none rfl) rfl (rd_assign rfl rfl) ?_
      refine GL_nil ?_
      refine GW_seq ?_
      refine GW_region ?_
      refine GL_rd (v := .int _ _) (wn_none rfl) rfl (rd_move rfl rfl) ?_
      refine GL_rd (wn_none rfl) rfl (rd_bin rfl rfl rfl (bo_andB 0 1 (by decide))) ?_
      refine GL_rd (wn_none rfl) rfl (rd_bin rfl rfl rfl bo_eql) ?_
      refine GL_rd (v := .int _ _) (wn_none rfl) rfl (rd_move rfl rfl) ?_
      refine GL_rd (wn_none rfl) rfl (rd_bin rfl rfl rfl (bo_andB 0 2 (by decide))) ?_
      refine GL_rd (wn_none rfl) rfl (rd_bin rfl rfl rfl bo_eql) ?_
      refine GL_rd (wn_none rfl) rfl (rd_field rfl rfl fa97_2 _ rfl) ?_
      refine GL_store (i := 1) (wn_none rfl) rfl rfl rfl rfl ts4 rfl rfl (one1 rfl) hp rfl (by first | exact Nat.le_of_ble_eq_true rfl | simp [bys_length, *]) rfl ?_
      intro w hp
      refine GL_rd (wn_none rfl) rfl (rd_field rfl rfl fa97_3 _ rfl) ?_
      refine GL_store (i := 1) (wn_none rfl) rfl rfl rfl rfl ts4 rfl rfl (one1 rfl) hp rfl (by first | exact Nat.le_of_ble_eq_true rfl | simp [bys_length, *]) rfl ?_
      intro w hp
      refine GL_nil ?_
      refine GW_seq ?_
      refine GW_region ?_
      refine GL_rd (v := .int _ _) (wn_none rfl) rfl (rd_move rfl rfl) ?_
      refine GL_rd (wn_none rfl) rfl (rd_bin rfl rfl rfl bo_gtr) ?_
      refine GL_rd (v := .bool _) (wn_none rfl) rfl (rd_move rfl rfl) ?_
      refine GL_split (t := 37) (b := _) rfl ?_ ?_
      ·intro hb5; (try simp only [decide_eq_true_eq, decide_eq_false_iff_not, Bool.not_eq_true', Bool.not_eq_false', Bool.not_eq_eq_eq_not, Bool.not_true, Bool.not_false, Int.not_lt, Int.not_le] at hb5)
       exact absurd hb5 (by decide)
      ·intro hb5; (try simp only [decide_eq_true_eq, decide_eq_false_iff_not, Bool.not_eq_true', Bool.not_eq_false', Bool.not_eq_eq_eq_not, Bool.not_true, Bool.not_false, Int.not_lt, Int.not_le] at hb5)
       refine GL_rd (v := .pointer (some ⟨_, _, none⟩)) (wn_on rfl rfl rfl rfl) rfl (rd_move rfl rfl) ?_
       refine GL_call (wn_on rfl rfl rfl rfl) rfl rfl (cur_Right p _ (((clBody x).drop (23 * i)).drop 16) (true) _ (hp.get 0 rfl) (fun w' h => (hsuf7 w' (hsufC w' (Sl.cellsB (hp.stayAt 0 5 rfl rfl (by decide) h) (by rw [hx]; decide) (by decide) (by decide)))))) rfl ?_
       rintro _ w ⟨rfl, hk⟩
       have hp := hp.comp hk
       refine GL_rd (wn_on rfl rfl rfl rfl) rfl (rd_not rfl rfl) ?_
       refine GL_rd (v := .bool _) (wn_none rfl) rfl (rd_pickF rfl rfl rfl) ?_
       refine GL_rd (v := .bool _) (wn_none rfl) rfl (rd_move rfl rfl) ?_
       refine GL_pass (nw_off rfl rfl rfl rfl rfl) rfl ?_
       refine GL_pass (nw_off rfl rfl rfl rfl rfl) rfl ?_
       refine GL_pass (nw_off rfl rfl rfl rfl rfl) rfl ?_
       refine GL_pass (nw_off rfl rfl rfl rfl rfl) rfl ?_
       refine GL_rd (v := .bool _) (wn_none rfl) rfl (rd_pickT rfl rfl rfl) ?_
       refine GL_nil ?_
       refine GW_true rfl ?_
       refine GW_seq ?_
       refine GW_region ?_
       refine GL_rd (v := _) (wn_none rfl) rfl (rd_assign rfl rfl) ?_
       refine GL_rd (v := .int _ _) (wn_none rfl) rfl (rd_assign rfl rfl) ?_
       refine GL_nil ?_
       refine GW_ret ?_
       exact ⟨_, res2 Try.results69 (rv_tmp (v := _) rfl rfl) (rv_tmp (v := .int _ _) rfl rfl), .inl ⟨rfl, hp.mods, no_text hi hu⟩⟩
   ·(try simp only [decide_eq_true_eq, decide_eq_false_iff_not, Bool.not_eq_true', Bool.not_eq_false', Bool.not_eq_eq_eq_not, Bool.not_true, Bool.not_false, Int.not_lt, Int.not_le] at hb2)
    obtain rfl : i = clN x := by omega
    have h8 := hok.1
    refine GW_exit ?_
    refine GW_seq ?_
    refine GW_seq ?_
    refine GW_region ?_
    refine GL_rd (v := .pointer (some ⟨_, _, none⟩)) (wn_none rfl) rfl (rd_move rfl rfl) ?_
    refine GL_call (wn_none rfl) rfl rfl (cur_Rest p _ ((clBody x).drop (23 * clN x)) (false) _ (hp.get 3 rfl) (fun w' h => (hsufL w' (Sl.cellsB (hp.stayAt 3 4 rfl rfl (by decide) h) (by rw [hx]; decide) (by decide) (by decide))))) rfl ?_
    rintro _ w ⟨rfl, hk⟩
    have hp := hp.comp hk
    refine GL_rd (wn_none rfl) rfl (rd_not rfl rfl) ?_
    refine GL_nil ?_
    refine GW_cond rfl (fun hb6 => ?_) (fun hb6 => ?_)
    ·(try simp only [decide_eq_true_eq, decide_eq_false_iff_not, Bool.not_eq_true', Bool.not_eq_false', Bool.not_eq_eq_eq_not, Bool.not_true, Bool.not_false, Int.not_lt, Int.not_le] at hb6)
     have hnz : ¬ zeroL ((clBody x).drop (23 * clN x)) = true := by have q := hb6; intro e; rw [e] at q; cases q
     refine GW_seq ?_
     refine GW_region ?_
     refine GL_rd (v := _) (wn_none rfl) rfl (rd_assign rfl rfl) ?_
     refine GL_rd (v := .int _ _) (wn_none rfl) rfl (rd_assign rfl rfl) ?_
     refine GL_nil ?_
     refine GW_ret ?_
     exact ⟨_, res2 Try.results69 (rv_tmp (v := _) rfl rfl) (rv_tmp (v := .int _ _) rfl rfl), .inl ⟨rfl, hp.mods, no_rest hnz⟩⟩
    ·(try simp only [decide_eq_true_eq, decide_eq_false_iff_not, Bool.not_eq_true', Bool.not_eq_false', Bool.not_eq_eq_eq_not, Bool.not_true, Bool.not_false, Int.not_lt, Int.not_le] at hb6)
     have hzr : zeroL ((clBody x).drop (23 * clN x)) = true := hb6
     refine GW_skip ?_
     refine GW_seq ?_
     refine GW_region ?_
     refine GL_rd (v := .pointer (some ⟨_, _, none⟩)) (wn_none rfl) rfl (rd_move rfl rfl) ?_
     refine GL_rd (v := .pointer (some ⟨_, _, none⟩)) (wn_none rfl) rfl (rd_assign rfl rfl) ?_
     refine GL_rd (v := .int _ _) (wn_none rfl) rfl (rd_assign rfl rfl) ?_
     refine GL_nil ?_
     refine GW_ret ?_
     have hz := hzr
     refine ⟨_, res2 Try.results69 (rv_tmp (v := .pointer (some ⟨_, _, none⟩)) rfl rfl) (rv_tmp (v := .int _ _) rfl rfl), .inr ⟨g9, m9, sv2, l, rfl, hok, cls_read hx hh hok (by omega) (by rw [hll]; exact hB) (by rw [hll]; exact hz), ?_⟩⟩
     have hp := ((((hp.front 2 rfl).front 2 rfl).front 2 rfl).take 3)
     exact hp
  ·have hp := ((((((hp.front 4 rfl).front 1 rfl).front 4 rfl).front 3 rfl).front 4 rfl).take 5)
   refine ⟨_, slots4 rfl rfl rfl rfl, hp, Nat.zero_le _, ClsOk.nil, rfl, rfl, hsuf⟩

end Go.Proofs.Ytjbbknjhgdmdkaa
