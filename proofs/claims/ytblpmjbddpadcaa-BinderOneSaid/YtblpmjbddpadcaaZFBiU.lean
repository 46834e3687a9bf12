/- Walks of functions of the program. -/
import Derived.Test.YtblpmjbddpadcaaZFBin
import Derived.Test.YtblpmjbddpadcaaZBinU
set_option linter.unusedVariables false
set_option linter.unusedSimpArgs false
namespace Go.Proofs.Ytblpmjbddpadcaa
open Go.Mo Go.RowKit
theorem ref_bUses (lv : Value) (m : Nat) (l : List CV) (t : Int) (w0 : World) (hI : Sl w0 lv 39 m (l.flatMap cvC)) (hL : cvSl w0 l) (hn : ∀ x ∈ l, x.1.texts.length ≤ 65535) (hm : m ≤ 65535) : Does Try.prog 72 #[lv, .int .i64 t] w0 fun v w' => v = .int .i64 (useN l t : Int) ∧ Hp w0 [] w' [] := by
 obtain ⟨A, c, rfl⟩ := sl_shape hI
 have hlm : l.length = m := Sl.cvs hI
 have hmle := hI.le
 refine does_of (l := [.slice A m c, .int .i64 t]) Try.func72 (by kernel_rfl) rfl Try.ntmps72 rfl rfl ?_
 have hp := Hp.refl w0 []
 refine GW_seq ?_
 refine GW_region ?_
 refine GL_rd (v := .int _ _) (wn_none rfl) rfl (rd_assign rfl rfl) ?_
 refine GL_nil ?_
 refine GW_seq ?_
 refine GW_region ?_
 refine GL_rd (v := .int _ _) (wn_none rfl) rfl (rd_assign rfl rfl) ?_
 refine GL_nil ?_
 refine GW_seq ?_
 refine GW_seq ?_
 refine GW_region ?_
 refine GL_rd (v := .int _ _) (wn_none rfl) rfl (rd_assign rfl rfl) ?_
 refine GL_nil ?_
 refine GW_block ?_
 refine GW_loop ?_
 refine Lp_ind (α := Nat × Nat) (fun a_0 f_0 w' => match a_0 with | (i, n) => ∃ fz, f_0 = (upd (upd (upd (upd fz 0 (.slice A m c)) 1 (.int .i64 t)) 5 (.int .i64 (n : Int))) 6 (.int .i64 (i : Int))) ∧ Hp w0 [] w' [] ∧ (i ≤ m) ∧ (n = useN (l.take i) t) ∧ (n ≤ 65535 * i)) (fun a_0 => match a_0 with | (i, n) => m - i) ?_ (0, 0) _ _ ?_
 ·rintro ⟨i, n⟩ f wz ⟨fz, rfl, hp, hi0, hn0, hnb⟩ ihL0
  refine Lp_round ?_
  refine GW_seq ?_
  refine GW_seq ?_
  refine GW_region ?_
  refine GL_rd (v := .int _ _) (wn_none rfl) rfl (rd_move rfl rfl) ?_
  refine GL_rd (v := .slice _ _ _) (wn_none rfl) rfl (rd_move rfl rfl) ?_
  refine GL_rd (wn_none rfl) rfl (rd_len rfl rfl Try.underlying96) ?_
  refine GL_rd (wn_none rfl) rfl (rd_bin rfl rfl rfl bo_lss) ?_
  refine GL_nil ?_
  refine GW_cond rfl (fun hb => ?_) (fun hb => ?_)
  ·(try simp only [decide_eq_true_eq, decide_eq_false_iff_not, Bool.not_eq_true', Bool.not_eq_false', Bool.not_eq_eq_eq_not, Bool.not_true, Bool.not_false, Int.not_lt, Int.not_le] at hb)
   obtain ⟨gA, bA, rfl⟩ := hI.addr (by rw [flat_length cvC_len]; omega)
   have hTt := (hL _ (mem_at (cvAt_some (l := l) (i := i) (by omega)))).2
   have hnt := hn _ (mem_at (cvAt_some (l := l) (i := i) (by omega)))
   obtain ⟨At, ct, het⟩ := sl_shape hTt
   rw [het] at hTt
   refine GW_skip ?_
   refine GW_seq ?_
   refine GW_block ?_
   refine GW_seq ?_
   refine GW_region ?_
   refine GL_rd (v := .int _ _) (wn_none rfl) rfl (rd_assign rfl rfl) ?_
   refine GL_nil ?_
   refine GW_block ?_
   refine GW_loop ?_
   refine Lp_ind (α := Nat × Nat) (fun a_0 f_0 w' => match a_0 with | (j, n2) => ∃ fz, f_0 = (upd (upd (upd (upd (upd fz 0 (.slice (some ⟨gA, bA, none⟩) m c)) 1 (.int .i64 t)) 5 (.int .i64 (n2 : Int))) 6 (.int .i64 (i : Int))) 7 (.int .i64 (j : Int))) ∧ Hp w0 [] w' [] ∧ (j ≤ (cvAt l i).1.texts.length) ∧ (n2 = useN (l.take i) t + ((cvAt l i).1.texts.take j).count t) ∧ (n2 ≤ 65535 * i + j)) (fun a_0 => match a_0 with | (j, n2) => (cvAt l i).1.texts.length - j) ?_ (0, n) _ _ ?_
   ·rintro ⟨j, n2⟩ f wz ⟨fz, rfl, hp, hj0, hn2, hb2⟩ ihL1
    refine Lp_round ?_
    refine GW_seq ?_
    refine GW_seq ?_
    refine GW_region ?_
    refine GL_rd (v := .int _ _) (wn_none rfl) rfl (rd_move rfl rfl) ?_
    refine GL_rd (v := .slice _ _ _) (wn_none rfl) rfl (rd_move rfl rfl) ?_
    refine GL_rd (v := .int _ _) (wn_none rfl) rfl (rd_move rfl rfl) ?_
    refine GL_rd (wn_none rfl) rfl (rd_indexS (j := i) rfl rfl rfl Try.underlying96 ts83 rfl (by omega) _ rfl) ?_
    refine GL_rd (wn_none rfl) rfl (rd_field rfl rfl fa83_7 _ rfl) ?_
    refine GL_rd (v := .slice _ _ _) (wn_none rfl) rfl (rd_load rfl rfl Try.underlying32 rfl (((hI.keep hp.mod).cvE i (by omega) (clip_texts _ _ _)).trans (congrArg some het))) ?_
    refine GL_rd (wn_none rfl) rfl (rd_len rfl rfl Try.underlying32) ?_
    refine GL_rd (wn_none rfl) rfl (rd_bin rfl rfl rfl bo_lss) ?_
    refine GL_nil ?_
    refine GW_cond rfl (fun hb2 => ?_) (fun hb2 => ?_)
    ·(try simp only [decide_eq_true_eq, decide_eq_false_iff_not, Bool.not_eq_true', Bool.not_eq_false', Bool.not_eq_eq_eq_not, Bool.not_true, Bool.not_false, Int.not_lt, Int.not_le] at hb2)
     obtain ⟨gB, bB, rfl⟩ := hTt.addr (by rw [List.length_map]; omega)
     refine GW_skip ?_
     refine GW_seq ?_
     refine GW_block ?_
     refine GW_seq ?_
     refine GW_region ?_
     refine GL_rd (v := .slice _ _ _) (wn_none rfl) rfl (rd_move rfl rfl) ?_
     refine GL_rd (v := .int _ _) (wn_none rfl) rfl (rd_move rfl rfl) ?_
     refine GL_rd (wn_none rfl) rfl (rd_indexS (j := i) rfl rfl rfl Try.underlying96 ts83 rfl (by omega) _ rfl) ?_
     refine GL_rd (wn_none rfl) rfl (rd_field rfl rfl fa83_7 _ rfl) ?_
     refine GL_rd (v := .slice _ _ _) (wn_none rfl) rfl (rd_load rfl rfl Try.underlying32 rfl (((hI.keep hp.mod).cvE i (by omega) (clip_texts _ _ _)).trans (congrArg some het))) ?_
     refine GL_rd (v := .int _ _) (wn_none rfl) rfl (rd_move rfl rfl) ?_
     refine GL_rd (wn_none rfl) rfl (rd_indexS (j := j) rfl rfl rfl Try.underlying32 ts3 rfl (by omega) _ rfl) ?_
     refine GL_rd (wn_none rfl) rfl (rd_load rfl rfl Try.underlying3 rfl ((hTt.keep hp.mod).get _ _ (intAt_cell (i := j) (by omega)))) ?_
     refine GL_rd (v := .int _ _) (wn_none rfl) rfl (rd_move rfl rfl) ?_
     refine GL_rd (wn_none rfl) rfl (rd_bin rfl rfl rfl bo_eql) ?_
     refine GL_nil ?_
     refine GW_cond rfl (fun hb3 => ?_) (fun hb3 => ?_)
     ·(try simp only [decide_eq_true_eq, decide_eq_false_iff_not, Bool.not_eq_true', Bool.not_eq_false', Bool.not_eq_eq_eq_not, Bool.not_true, Bool.not_false, Int.not_lt, Int.not_le] at hb3)
      have hq := hb3
      refine GW_region ?_
      refine GL_rd (v := .int _ _) (wn_none rfl) rfl (rd_move rfl rfl) ?_
      refine GL_rd (wn_none rfl) rfl (rd_bin rfl rfl rfl (bo_add64 (by omega))) ?_
      refine GL_rd (v := .int _ _) (wn_none rfl) rfl (rd_assign rfl rfl) ?_
      refine GL_nil ?_
      refine GW_region ?_
      refine GL_rd (v := .int _ _) (wn_none rfl) rfl (rd_move rfl rfl) ?_
      refine GL_rd (wn_none rfl) rfl (rd_bin rfl rfl rfl (bo_add64 (by omega))) ?_
      refine GL_rd (v := .int _ _) (wn_none rfl) rfl (rd_assign rfl rfl) ?_
      refine GL_nil ?_
      exact ihL1 (j + 1, n2 + 1) _ _ (by simp only []; omega) ⟨_, slots5 rfl rfl rfl rfl rfl, hp, by omega, by rw [hn2, ← hq, count_yes (by omega), Nat.add_assoc], by omega⟩
     ·(try simp only [decide_eq_true_eq, decide_eq_false_iff_not, Bool.not_eq_true', Bool.not_eq_false', Bool.not_eq_eq_eq_not, Bool.not_true, Bool.not_false, Int.not_lt, Int.not_le] at hb3)
      have hq := hb3
      refine GW_skip ?_
      refine GW_region ?_
      refine GL_rd (v := .int _ _) (wn_none rfl) rfl (rd_move rfl rfl) ?_
      refine GL_rd (wn_none rfl) rfl (rd_bin rfl rfl rfl (bo_add64 (by omega))) ?_
      refine GL_rd (v := .int _ _) (wn_none rfl) rfl (rd_assign rfl rfl) ?_
      refine GL_nil ?_
      exact ihL1 (j + 1, n2) _ _ (by simp only []; omega) ⟨_, slots5 rfl rfl rfl rfl rfl, hp, by omega, by rw [hn2, count_no (by omega) hq], by omega⟩
    ·(try simp only [decide_eq_true_eq, decide_eq_false_iff_not, Bool.not_eq_true', Bool.not_eq_false', Bool.not_eq_eq_eq_not, Bool.not_true, Bool.not_false, Int.not_lt, Int.not_le] at hb2)
     obtain rfl : j = (cvAt l i).1.texts.length := by omega
     rw [List.take_of_length_le (Nat.le_refl _), ← useN_succ (by omega)] at hn2
     refine GW_exit ?_
     refine GW_region ?_
     refine GL_rd (v := .int _ _) (wn_none rfl) rfl (rd_move rfl rfl) ?_
     refine GL_rd (wn_none rfl) rfl (rd_bin rfl rfl rfl (bo_add64 (by omega))) ?_
     refine GL_rd (v := .int _ _) (wn_none rfl) rfl (rd_assign rfl rfl) ?_
     refine GL_nil ?_
     exact ihL0 (i + 1, n2) _ _ (by simp only []; omega) ⟨_, slots4 rfl rfl rfl rfl, hp, by omega, hn2, by omega⟩
   ·refine ⟨_, slots5 rfl rfl rfl rfl rfl, hp, Nat.zero_le _, by rw [hn0, List.take_zero, List.count_nil, Nat.add_zero], by omega⟩
  ·(try simp only [decide_eq_true_eq, decide_eq_false_iff_not, Bool.not_eq_true', Bool.not_eq_false', Bool.not_eq_eq_eq_not, Bool.not_true, Bool.not_false, Int.not_lt, Int.not_le] at hb)
   obtain rfl : i = m := by omega
   rw [List.take_of_length_le (by omega)] at hn0
   refine GW_exit ?_
   refine GW_seq ?_
   refine GW_region ?_
   refine GL_rd (v := .int _ _) (wn_none rfl) rfl (rd_move rfl rfl) ?_
   refine GL_rd (v := .int _ _) (wn_none rfl) rfl (rd_assign rfl rfl) ?_
   refine GL_nil ?_
   refine GW_ret ?_
   exact ⟨_, res1 Try.results72 (rv_tmp (v := .int _ _) rfl rfl), by rw [hn0], hp.mods⟩
 ·refine ⟨_, slots4 rfl rfl rfl rfl, hp, Nat.zero_le _, rfl, Nat.zero_le _⟩
end Go.Proofs.Ytblpmjbddpadcaa
