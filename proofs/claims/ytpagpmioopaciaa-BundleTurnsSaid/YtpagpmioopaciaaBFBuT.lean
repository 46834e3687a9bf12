/- Walks of functions of the program. -/
import Derived.Test.YtpagpmioopaciaaBFBuX
set_option linter.unusedVariables false
set_option linter.unusedSimpArgs false
namespace Go.Proofs.Ytpagpmioopaciaa
open Go.Mo Go.RowKit
set_option maxHeartbeats 1000000 in
theorem law_BundleTurns (b : Bu) (tv av : Value) (at_ : Int) (m : Nat) (w0 : World) (hB : BuAt b tv av w0) (hm : m < 4294967296) : Does Try.prog 8 #[.agg ⟨buC b tv av⟩, .int .i64 at_, .int .u32 (m : Int)] w0 fun v w' => v = .bool true ∧ Hp w0 [] w' [] := by
 obtain ⟨At, ct, rfl⟩ := sl_shape hB.tx
 obtain ⟨Aa, ca, rfl⟩ := sl_shape hB.au
 have htx := hB.tx
 have hau := hB.au
 have htl := htx.le
 refine does_of (l := [.agg ⟨(buC b (.slice At b.tx.length ct) (.slice Aa b.au.length ca))⟩, .int .i64 at_, .int .u32 (m : Int)]) Try.func8 (by kernel_rfl) rfl Try.ntmps8 rfl rfl (by kernel_rfl) ?_
 have hp := Hp.refl w0 []
 refine GW_seq ?_
 refine GW_region ?_
 refine GL_box (wn_none rfl) rfl rfl rfl rfl hp ?_
 intro g w hp
 refine GL_rd (v := .bool _) (wn_none rfl) rfl (rd_assign rfl rfl) ?_
 refine GL_nil ?_
 refine GW_seq ?_
 refine GW_seq ?_
 refine GW_region ?_
 refine GL_rd (wn_none rfl) rfl (rd_loadC rfl rfl Try.underlying78 rfl ts78 (hp.get 0 rfl) (by first | (rw [bys_length]; first | exact a32_len _) | rfl | simp [bys_length, *])) ?_
 refine GL_call (wn_none rfl) rfl rfl (bu_light b _ _ _ (hB.keep hp.mod)) rfl ?_
 rintro _ w ⟨rfl, hk⟩
 have hp := hp.comp hk
 refine GL_rd (wn_none rfl) rfl (rd_not rfl rfl) ?_
 refine GL_rd (v := .bool _) (wn_none rfl) rfl (rd_move rfl rfl) ?_
 refine GL_split (t := 16) (b := _) rfl ?_ ?_
 ·intro hb; (try simp only [decide_eq_true_eq, decide_eq_false_iff_not, Bool.not_eq_true', Bool.not_eq_false', Bool.not_eq_eq_eq_not, Bool.not_true, Bool.not_false, Int.not_lt, Int.not_le] at hb)
  refine GL_pass (nw_off rfl rfl rfl rfl rfl) rfl ?_
  refine GL_pass (nw_off rfl rfl rfl rfl rfl) rfl ?_
  refine GL_rd (v := .bool _) (wn_none rfl) rfl (rd_pickT rfl rfl rfl) ?_
  refine GL_rd (v := .bool _) (wn_none rfl) rfl (rd_move rfl rfl) ?_
  refine GL_pass (nw_off rfl rfl rfl rfl rfl) rfl ?_
  refine GL_pass (nw_off rfl rfl rfl rfl rfl) rfl ?_
  refine GL_rd (v := .bool _) (wn_none rfl) rfl (rd_pickT rfl rfl rfl) ?_
  refine GL_nil ?_
  refine GW_true rfl ?_
  refine GW_seq ?_
  refine GW_region ?_
  refine GL_call (wn_none rfl) rfl rfl (law_bworks _) rfl ?_
  rintro _ w ⟨rfl, hk⟩
  have hp := hp.comp hk
  refine GL_rd (v := .bool _) (wn_none rfl) rfl (rd_assign rfl rfl) ?_
  refine GL_nil ?_
  refine GW_ret ?_
  exact ⟨_, res1 Try.results8 (rv_tmp (v := .bool _) rfl rfl), rfl, hp.mods⟩
 ·intro hb; (try simp only [decide_eq_true_eq, decide_eq_false_iff_not, Bool.not_eq_true', Bool.not_eq_false', Bool.not_eq_eq_eq_not, Bool.not_true, Bool.not_false, Int.not_lt, Int.not_le] at hb)
  have hlit : litBu b = true := by simpa using hb
  have hsm := litBu_sm hlit
  refine GL_rd (v := .int _ _) (wn_on rfl rfl rfl rfl) rfl (rd_move rfl rfl) ?_
  refine GL_rd (wn_on rfl rfl rfl rfl) rfl (rd_bin rfl rfl rfl bo_eql) ?_
  refine GL_rd (v := .bool _) (wn_none rfl) rfl (rd_pickF rfl rfl rfl) ?_
  refine GL_rd (v := .bool _) (wn_none rfl) rfl (rd_move rfl rfl) ?_
  refine GL_split (t := 20) (b := _) rfl ?_ ?_
  ·intro hb2; (try simp only [decide_eq_true_eq, decide_eq_false_iff_not, Bool.not_eq_true', Bool.not_eq_false', Bool.not_eq_eq_eq_not, Bool.not_true, Bool.not_false, Int.not_lt, Int.not_le] at hb2)
   refine GL_pass (nw_off rfl rfl rfl rfl rfl) rfl ?_
   refine GL_pass (nw_off rfl rfl rfl rfl rfl) rfl ?_
   refine GL_rd (v := .bool _) (wn_none rfl) rfl (rd_pickT rfl rfl rfl) ?_
   refine GL_nil ?_
   refine GW_true rfl ?_
   refine GW_seq ?_
   refine GW_region ?_
   refine GL_call (wn_none rfl) rfl rfl (law_bworks _) rfl ?_
   rintro _ w ⟨rfl, hk⟩
   have hp := hp.comp hk
   refine GL_rd (v := .bool _) (wn_none rfl) rfl (rd_assign rfl rfl) ?_
   refine GL_nil ?_
   refine GW_ret ?_
   exact ⟨_, res1 Try.results8 (rv_tmp (v := .bool _) rfl rfl), rfl, hp.mods⟩
  ·intro hb2; (try simp only [decide_eq_true_eq, decide_eq_false_iff_not, Bool.not_eq_true', Bool.not_eq_false', Bool.not_eq_eq_eq_not, Bool.not_true, Bool.not_false, Int.not_lt, Int.not_le] at hb2)
   have hm0 : m ≠ 0 := by have := hb2; omega
   refine GL_rd (v := .int _ _) (wn_on rfl rfl rfl rfl) rfl (rd_move rfl rfl) ?_
   refine GL_rd (wn_on rfl rfl rfl rfl) rfl (rd_bin rfl rfl rfl bo_lss) ?_
   refine GL_rd (v := .bool _) (wn_none rfl) rfl (rd_pickF rfl rfl rfl) ?_
   refine GL_nil ?_
   refine GW_cond rfl (fun hb3 => ?_) (fun hb3 => ?_)
   ·(try simp only [decide_eq_true_eq, decide_eq_false_iff_not, Bool.not_eq_true', Bool.not_eq_false', Bool.not_eq_eq_eq_not, Bool.not_true, Bool.not_false, Int.not_lt, Int.not_le] at hb3)
    refine GW_seq ?_
    refine GW_region ?_
    refine GL_call (wn_none rfl) rfl rfl (law_bworks _) rfl ?_
    rintro _ w ⟨rfl, hk⟩
    have hp := hp.comp hk
    refine GL_rd (v := .bool _) (wn_none rfl) rfl (rd_assign rfl rfl) ?_
    refine GL_nil ?_
    refine GW_ret ?_
    exact ⟨_, res1 Try.results8 (rv_tmp (v := .bool _) rfl rfl), rfl, hp.mods⟩
   ·(try simp only [decide_eq_true_eq, decide_eq_false_iff_not, Bool.not_eq_true', Bool.not_eq_false', Bool.not_eq_eq_eq_not, Bool.not_true, Bool.not_false, Int.not_lt, Int.not_le] at hb3)
    have hat : 0 ≤ at_ := by have := hb3; omega
    refine GW_skip ?_
    refine GW_seq ?_
    refine GW_region ?_
    refine GL_rd (wn_none rfl) rfl (rd_loadC rfl rfl Try.underlying78 rfl ts78 (hp.get 0 rfl) (by first | (rw [bys_length]; first | exact a32_len _) | rfl | simp [bys_length, *])) ?_
    refine GL_call (wn_none rfl) rfl rfl (bu_own b _ _ _ (hB.keep hp.mod)) rfl ?_
    rintro _ w ⟨rfl, hk⟩
    have hp := hp.comp hk
    refine GL_call (wn_none rfl) rfl rfl (bu_Put b _ _ _ (hB.keep hp.mod) hsm) rfl ?_
    rintro _ w ⟨pv, rfl, hk⟩
    have hp := hp.comp hk
    obtain ⟨Ap, cp, rfl⟩ := row_shape (hp.get 0 rfl)
    refine GL_rd (v := .tuple _) (wn_none rfl) rfl (rd_move rfl rfl) ?_
    refine GL_rd (v := .slice _ _ _) (wn_none rfl) rfl (rd_extract rfl rfl rfl) ?_
    refine GL_rd (v := .int _ _) (wn_none rfl) rfl (rd_extract rfl rfl rfl) ?_
    refine GL_rd (v := .slice _ _ _) (wn_none rfl) rfl (rd_assign rfl rfl) ?_
    refine GL_rd (v := .int _ _) (wn_none rfl) rfl (rd_assign rfl rfl) ?_
    refine GL_nil ?_
    refine GW_seq ?_
    refine GW_seq ?_
    refine GW_region ?_
    refine GL_rd (v := .int _ _) (wn_none rfl) rfl (rd_move rfl rfl) ?_
    refine GL_rd (wn_none rfl) rfl (rd_bin rfl rfl rfl bo_neq) ?_
    refine GL_rd (v := .bool _) (wn_none rfl) rfl (rd_move rfl rfl) ?_
    refine GL_split (t := 33) (b := _) rfl ?_ ?_
    ·intro hb4; (try simp only [decide_eq_true_eq, decide_eq_false_iff_not, Bool.not_eq_true', Bool.not_eq_false', Bool.not_eq_eq_eq_not, Bool.not_true, Bool.not_false, Int.not_lt, Int.not_le] at hb4)
     have hne := hb4
     refine GL_pass (nw_off rfl rfl rfl rfl rfl) rfl ?_
     refine GL_pass (nw_off rfl rfl rfl rfl rfl) rfl ?_
     refine GL_pass (nw_off rfl rfl rfl rfl rfl) rfl ?_
     refine GL_rd (v := .bool _) (wn_none rfl) rfl (rd_pickT rfl rfl rfl) ?_
     refine GL_nil ?_
     refine GW_true rfl ?_
     refine GW_seq ?_
     refine GW_region ?_
     refine GL_rd (v := .int _ _) (wn_none rfl) rfl (rd_move rfl rfl) ?_
     refine GL_rd (wn_none rfl) rfl (rd_bin rfl rfl rfl bo_neq) ?_
     refine GL_rd (v := .bool _) (wn_none rfl) rfl (rd_move rfl rfl) ?_
     refine GL_split (t := 40) (b := _) rfl ?_ ?_
     ·intro hb5; (try simp only [decide_eq_true_eq, decide_eq_false_iff_not, Bool.not_eq_true', Bool.not_eq_false', Bool.not_eq_eq_eq_not, Bool.not_true, Bool.not_false, Int.not_lt, Int.not_le] at hb5)
      refine GL_call (wn_on rfl rfl rfl rfl) rfl rfl (law_bworks _) rfl ?_
      rintro _ w ⟨rfl, hk⟩
      have hp := hp.comp hk
      refine GL_rd (v := .bool _) (wn_none rfl) rfl (rd_pickT rfl rfl rfl) ?_
      refine GL_rd (v := .bool _) (wn_none rfl) rfl (rd_assign rfl rfl) ?_
      refine GL_nil ?_
      refine GW_ret ?_
      exact ⟨_, res1 Try.results8 (rv_tmp (v := .bool _) rfl rfl), rfl, hp.mods⟩
     ·intro hb5; (try simp only [decide_eq_true_eq, decide_eq_false_iff_not, Bool.not_eq_true', Bool.not_eq_false', Bool.not_eq_eq_eq_not, Bool.not_true, Bool.not_false, Int.not_lt, Int.not_le] at hb5)
      exact absurd hb5 hne
    ·intro hb4; (try simp only [decide_eq_true_eq, decide_eq_false_iff_not, Bool.not_eq_true', Bool.not_eq_false', Bool.not_eq_eq_eq_not, Bool.not_true, Bool.not_false, Int.not_lt, Int.not_le] at hb4)
     have hk0 : buK b = 0 := hb4
     obtain ⟨hl20, hlm⟩ := bu_len hk0
     refine GL_rd (v := .slice _ _ _) (wn_on rfl rfl rfl rfl) rfl (rd_move rfl rfl) ?_
     refine GL_rd (wn_on rfl rfl rfl rfl) rfl (rd_len rfl rfl Try.underlying33) ?_
     refine GL_rd (wn_on rfl rfl rfl rfl) rfl (rd_bin rfl rfl rfl bo_lss) ?_
     refine GL_rd (v := .bool _) (wn_none rfl) rfl (rd_pickF rfl rfl rfl) ?_
     refine GL_nil ?_
     refine GW_cond rfl (fun hb6 => ?_) (fun hb6 => ?_)
     ·(try simp only [decide_eq_true_eq, decide_eq_false_iff_not, Bool.not_eq_true', Bool.not_eq_false', Bool.not_eq_eq_eq_not, Bool.not_true, Bool.not_false, Int.not_lt, Int.not_le] at hb6)
      exact absurd hb6 (by omega)
     ·(try simp only [decide_eq_true_eq, decide_eq_false_iff_not, Bool.not_eq_true', Bool.not_eq_false', Bool.not_eq_eq_eq_not, Bool.not_true, Bool.not_false, Int.not_lt, Int.not_le] at hb6)
      refine GW_skip ?_
      refine GW_seq ?_
      refine GW_region ?_
      refine GL_rd (v := .int _ _) (wn_none rfl) rfl (rd_move rfl rfl) ?_
      refine GL_rd (v := .slice _ _ _) (wn_none rfl) rfl (rd_move rfl rfl) ?_
      refine GL_rd (wn_none rfl) rfl (rd_len rfl rfl Try.underlying33) ?_
      refine GL_rd (wn_none rfl) rfl (rd_bin rfl rfl rfl (bo_mul64 (by omega))) ?_
      refine GL_rd (wn_none rfl) rfl (rd_bin rfl rfl rfl (bo_sub64 (by omega))) ?_
      obtain ⟨n, hnE⟩ : ∃ n : Nat, at_ % (8 * ((buBytes b).length : Int) - 31) = (n : Int) := ⟨(at_ % (8 * ((buBytes b).length : Int) - 31)).toNat, (Int.toNat_of_nonneg (Int.emod_nonneg _ (by omega))).symm⟩
      have hn32 : n + 32 ≤ 8 * (buBytes b).length := by have := Int.emod_lt_of_pos at_ (show 0 < 8 * ((buBytes b).length : Int) - 31 by omega); omega
      obtain ⟨gp, cq, he, hcp⟩ := row_addr (hp.get 0 rfl) (by omega)
      injection he with h1 h2 h3
      subst h1; subst h3
      refine GL_rd (wn_none rfl) rfl (rd_bin rfl rfl rfl (bo_intE (q := .int .i64 (8 * ((buBytes b).length : Int) - 31)) (bo_rem64 (by omega) (by omega)) hnE)) ?_
      refine GL_rd (v := .int _ _) (wn_none rfl) rfl (rd_assign rfl rfl) ?_
      refine GL_nil ?_
      refine GW_seq ?_
      refine GW_seq ?_
      refine GW_region ?_
      refine GL_rd (v := .int _ _) (wn_none rfl) rfl (rd_assign rfl rfl) ?_
      refine GL_nil ?_
      refine GW_block ?_
      refine GW_loop ?_
      refine Lp_ind (α := Nat) (fun a_0 f_0 w' => match a_0 with | k => ∃ fz, f_0 = (upd (upd (upd (upd fz 7 (.slice (some ⟨gp, 0, none⟩) (buBytes b).length cp)) 10 (.int .i64 (k : Int))) 9 (.int .i64 (n : Int))) 2 (.int .u32 (m : Int))) ∧ Hp w0 [] w' [.row 5 1 (.slice (some ⟨gp, 0, none⟩) (buBytes b).length cp) (buBytes b).length (bys (flips (buBytes b) n m k))] ∧ (k ≤ 32)) (fun a_0 => match a_0 with | k => 32 - k) ?_ (0) _ _ ?_
      ·rintro k f wz ⟨fz, rfl, hp, hk32⟩ ihL0
       refine Lp_round ?_
       refine GW_seq ?_
       refine GW_seq ?_
       refine GW_region ?_
       refine GL_rd (v := .int _ _) (wn_none rfl) rfl (rd_move rfl rfl) ?_
       refine GL_rd (wn_none rfl) rfl (rd_bin rfl rfl rfl bo_lss) ?_
       refine GL_nil ?_
       refine GW_cond rfl (fun hb7 => ?_) (fun hb7 => ?_)
       ·(try simp only [decide_eq_true_eq, decide_eq_false_iff_not, Bool.not_eq_true', Bool.not_eq_false', Bool.not_eq_eq_eq_not, Bool.not_true, Bool.not_false, Int.not_lt, Int.not_le] at hb7)
        refine GW_skip ?_
        refine GW_seq ?_
        refine GW_block ?_
        refine GW_seq ?_
        refine GW_region ?_
        refine GL_rd (v := .int _ _) (wn_none rfl) rfl (rd_move rfl rfl) ?_
        refine GL_rd (v := .int _ _) (wn_none rfl) rfl (rd_move rfl rfl) ?_
        refine GL_rd (wn_none rfl) rfl (rd_convE (q := (k : Int)) rfl rfl Try.underlying89 Try.underlying3 (by simp) (IntWalk.u64_in _ (by omega))) ?_
        refine GL_rd (wn_none rfl) rfl (rd_bin rfl rfl rfl (bo_shr (by omega) (by omega))) ?_
        refine GL_rd (wn_none rfl) rfl (rd_bin rfl rfl rfl (bo_bit32 m k hm (by omega))) ?_
        refine GL_rd (wn_none rfl) rfl (rd_bin rfl rfl rfl (bo_eqbit m k)) ?_
        refine GL_nil ?_
        refine GW_cond rfl (fun hb8 => ?_) (fun hb8 => ?_)
        ·(try simp only [decide_eq_true_eq, decide_eq_false_iff_not, Bool.not_eq_true', Bool.not_eq_false', Bool.not_eq_eq_eq_not, Bool.not_true, Bool.not_false, Int.not_lt, Int.not_le] at hb8)
         have hbt : m.testBit k = true := hb8
         refine GW_region ?_
         refine GL_rd (v := .slice _ _ _) (wn_none rfl) rfl (rd_move rfl rfl) ?_
         refine GL_rd (v := .int _ _) (wn_none rfl) rfl (rd_move rfl rfl) ?_
         refine GL_rd (v := .int _ _) (wn_none rfl) rfl (rd_move rfl rfl) ?_
         refine GL_rd (wn_none rfl) rfl (rd_bin rfl rfl rfl (bo_add64 (by omega))) ?_
         refine GL_rd (wn_none rfl) rfl (rd_bin rfl rfl rfl (bo_quo64 (by omega) (by omega) (by omega))) ?_
         refine GL_rd (v := .slice _ _ _) (wn_none rfl) rfl (rd_move rfl rfl) ?_
         refine GL_rd (v := .int _ _) (wn_none rfl) rfl (rd_move rfl rfl) ?_
         refine GL_rd (v := .int _ _) (wn_none rfl) rfl (rd_move rfl rfl) ?_
         refine GL_rd (wn_none rfl) rfl (rd_bin rfl rfl rfl (bo_add64 (by omega))) ?_
         refine GL_rd (wn_none rfl) rfl (rd_bin rfl rfl rfl (bo_quo64 (by omega) (by omega) (by omega))) ?_
         refine GL_rd (wn_none rfl) rfl (rd_indexS (j := ((n + k) / 8)) rfl rfl rfl Try.underlying33 ts5 (by omega) (by omega) _ rfl) ?_
         refine GL_rd (wn_none rfl) rfl (rd_load rfl rfl Try.underlying5 rfl (Sl.byte (Sl.row (hp.get 0 rfl)) ((n + k) / 8) (by omega))) ?_
         refine GL_rd (v := .int _ _) (wn_none rfl) rfl (rd_move rfl rfl) ?_
         refine GL_rd (v := .int _ _) (wn_none rfl) rfl (rd_move rfl rfl) ?_
         refine GL_rd (wn_none rfl) rfl (rd_bin rfl rfl rfl (bo_add64 (by omega))) ?_
         refine GL_rd (wn_none rfl) rfl (rd_bin rfl rfl rfl (bo_rem64 (by omega) (by omega))) ?_
         refine GL_rd (wn_none rfl) rfl (rd_convE (q := (((n + k) % 8 : Nat) : Int)) rfl rfl Try.underlying89 Try.underlying3 (by simp) (by rw [IntWalk.u64_in _ (by omega)]; omega)) ?_
         refine GL_rd (wn_none rfl) rfl (rd_bin rfl rfl rfl (bo_shl8 ((n + k) % 8) (Nat.mod_lt _ (by decide)))) ?_
         refine GL_rd (wn_none rfl) rfl (rd_bin rfl rfl rfl (bo_xor8 _ _)) ?_
         refine GL_rd (wn_none rfl) rfl (rd_indexS (j := ((n + k) / 8)) rfl rfl rfl Try.underlying33 ts5 (by omega) (by omega) _ rfl) ?_
         refine GL_storeR (i := 0) (wn_none rfl) rfl rfl rfl rfl ts5 rfl rfl (one1 rfl) hp rfl rfl (by rw [bys_length, flips_len]; omega) (flip_store (by rw [flips_len]; omega)) ?_
         intro w hp
         refine GL_nil ?_
         refine GW_region ?_
         refine GL_rd (v := .int _ _) (wn_none rfl) rfl (rd_move rfl rfl) ?_
         refine GL_rd (wn_none rfl) rfl (rd_bin rfl rfl rfl (bo_add64 (by omega))) ?_
         refine GL_rd (v := .int _ _) (wn_none rfl) rfl (rd_assign rfl rfl) ?_
         refine GL_nil ?_
         have hp := ((hp.front 0 rfl).take 1)
         have hp := hp.cast (show _ = [.row 5 1 (.slice (some ⟨gp, 0, none⟩) (buBytes b).length cp) (buBytes b).length (bys (flips (buBytes b) n m (k + 1)))] by rw [flips, hbt]; rfl)
         exact ihL0 (k + 1) _ _ (by simp only []; omega) ⟨_, slots4 rfl rfl rfl rfl, hp, by omega⟩
        ·(try simp only [decide_eq_true_eq, decide_eq_false_iff_not, Bool.not_eq_true', Bool.not_eq_false', Bool.not_eq_eq_eq_not, Bool.not_true, Bool.not_false, Int.not_lt, Int.not_le] at hb8)
         have hbt : m.testBit k = false := by simpa using hb8
         refine GW_skip ?_
         refine GW_region ?_
         refine GL_rd (v := .int _ _) (wn_none rfl) rfl (rd_move rfl rfl) ?_
         refine GL_rd (wn_none rfl) rfl (rd_bin rfl rfl rfl (bo_add64 (by omega))) ?_
         refine GL_rd (v := .int _ _) (wn_none rfl) rfl (rd_assign rfl rfl) ?_
         refine GL_nil ?_
         have hp := ((hp.front 0 rfl).take 1)
         have hp := hp.cast (show _ = [.row 5 1 (.slice (some ⟨gp, 0, none⟩) (buBytes b).length cp) (buBytes b).length (bys (flips (buBytes b) n m (k + 1)))] by rw [flips, hbt]; rfl)
         exact ihL0 (k + 1) _ _ (by simp only []; omega) ⟨_, slots4 rfl rfl rfl rfl, hp, by omega⟩
       ·(try simp only [decide_eq_true_eq, decide_eq_false_iff_not, Bool.not_eq_true', Bool.not_eq_false', Bool.not_eq_eq_eq_not, Bool.not_true, Bool.not_false, Int.not_lt, Int.not_le] at hb7)
        obtain rfl : k = 32 := by omega
        refine GW_exit ?_
        refine GW_seq ?_
        refine GW_region ?_
        refine GL_rd (v := .slice _ _ _) (wn_none rfl) rfl (rd_move rfl rfl) ?_
        refine GL_call (wn_none rfl) rfl rfl (bu_Get _ (flips (buBytes b) n m 32) _ (by rw [flips_len]; exact Sl.row (hp.get 0 rfl))) rfl ?_
        rintro _ w ⟨La, ca, Ha, rfl, hTa, hEa, hFa, hk⟩
        have hp := hp.comp hk
        obtain rfl : ca = 5 := hEa (by rw [flips_len]; exact hlm) (flips_seen hn32 hm hm0 (by rw [buBytes_yes hk0]; exact holds_seal _))
        obtain ⟨rfl, _, rfl⟩ := hTa.no (by decide)
        refine GL_rd (v := .tuple _) (wn_none rfl) rfl (rd_move rfl rfl) ?_
        refine GL_rd (v := .agg ⟨_⟩) (wn_none rfl) rfl (rd_extract rfl rfl rfl) ?_
        refine GL_rd (v := .int _ _) (wn_none rfl) rfl (rd_extract rfl rfl rfl) ?_
        refine GL_alloc (wn_none rfl) rfl rfl tz82 rfl hp ?_
        intro g2 w hp
        refine GL_store (i := 0) (wn_none rfl) rfl rfl rfl rfl ts82 rfl rfl (by decide) hp rfl (by first | exact Nat.le_of_ble_eq_true rfl | simp [bys_length, *]) rfl ?_
        intro w hp
        refine GL_rd (v := .int _ _) (wn_none rfl) rfl (rd_assign rfl rfl) ?_
        refine GL_nil ?_
        refine GW_seq ?_
        refine GW_region ?_
        refine GL_rd (v := .int _ _) (wn_none rfl) rfl (rd_move rfl rfl) ?_
        refine GL_rd (wn_none rfl) rfl (rd_bin rfl rfl rfl (bo_eqT rfl)) ?_
        refine GL_rd (v := .bool _) (wn_none rfl) rfl (rd_move rfl rfl) ?_
        refine GL_call (wn_on rfl rfl rfl rfl) rfl rfl (law_bworks _) rfl ?_
        rintro _ w ⟨rfl, hk⟩
        have hp := hp.comp hk
        refine GL_rd (v := .bool _) (wn_none rfl) rfl (rd_pickT rfl rfl rfl) ?_
        refine GL_rd (v := .bool _) (wn_none rfl) rfl (rd_assign rfl rfl) ?_
        refine GL_nil ?_
        refine GW_ret ?_
        exact ⟨_, res1 Try.results8 (rv_tmp (v := .bool _) rfl rfl), rfl, hp.mods⟩
      ·have hp := ((hp.front 0 rfl).take 1)
       refine ⟨_, slots4 rfl rfl rfl rfl, hp, by decide⟩
end Go.Proofs.Ytpagpmioopaciaa
