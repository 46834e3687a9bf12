/- Walks of functions of the program. -/
import Derived.Test.YtblpmjbddpadcaaZActs
import Derived.Test.YtblpmjbddpadcaaZTypes
import Derived.Test.YtblpmjbddpadcaaZSealS
import Derived.Test.YtblpmjbddpadcaaZFCrc
set_option linter.unusedVariables false
set_option linter.unusedSimpArgs false
namespace Go.Proofs.Ytblpmjbddpadcaa
open Go.Mo Go.RowKit
theorem ref_Sealed (sv : Value) (m : Nat) (l : List UInt8) (w0 : World) (hs : Sl w0 sv 1 m (bys l)) (hm : m ≤ 100000) : Does Try.prog 111 #[sv] w0 fun v w' => v = .agg ⟨bys (secL l)⟩ ∧ Hp w0 [] w' [] := by
 obtain ⟨A, c, rfl⟩ := sl_shape hs
 have hml := hs.blen
 have hmle := hs.le
 have hll := longL_ge l
 have hlp : (longL l).length = (padN 252 l).length + 4 := by rw [longL, List.length_append, fourL_length]
 refine does_of (l := [.slice A m c]) Try.func111 (by kernel_rfl) rfl Try.ntmps111 rfl rfl ?_
 have hp := Hp.refl w0 []
 refine GW_seq ?_
 refine GW_region ?_
 refine GL_alloc (wn_none rfl) rfl rfl tz44 rfl hp ?_
 intro g w hp
 refine GL_nil ?_
 refine GW_seq ?_
 refine GW_region ?_
 refine GL_rd (v := .slice _ _ _) (wn_none rfl) rfl (rd_assign rfl rfl) ?_
 refine GL_nil ?_
 refine GW_seq ?_
 refine GW_region ?_
 refine GL_rd (v := .slice _ _ _) (wn_none rfl) rfl (rd_move rfl rfl) ?_
 refine GL_rd (v := .slice _ _ _) (wn_none rfl) rfl (rd_move rfl rfl) ?_
 have hp := hp.nilRow 5 1
 refine GL_append (i := 0) (wn_none rfl) rfl rfl rfl rfl Try.underlying39 ti5 rfl (by decide) hp rfl (hs.keep hp.mod) (bys_one _) (by omega) (by omega) ?_
 intro v w hp
 obtain ⟨Av, cv, rfl⟩ := row_shape (hp.get 0 rfl)
 refine GL_rd (v := .slice _ _ _) (wn_none rfl) rfl (rd_assign rfl rfl) ?_
 refine GL_nil ?_
 refine GW_seq ?_
 refine GW_block ?_
 refine GW_loop ?_
 refine Lp_ind (α := Nat × Option Addr × Nat) (fun a_0 f_0 w' => match a_0 with | (k, A2, c2) => ∃ fz, f_0 = (upd (upd fz 2 (.pointer (some ⟨g, 0, none⟩))) 3 (.slice A2 k c2)) ∧ Hp w0 [] w' [.row 5 1 (.slice A2 k c2) k (bys (l ++ List.replicate (k - m) 0)), cells g 44 (List.replicate 256 (.int .u8 0))] ∧ (m ≤ k) ∧ (k ≤ m ∨ k ≤ 252)) (fun a_0 => match a_0 with | (k, A2, c2) => 252 - k) ?_ (0 + m, Av, cv) _ _ ?_
 ·rintro ⟨k, A2, c2⟩ f wz ⟨fz, rfl, hp, hk1, hk2⟩ ihL0
  refine Lp_round ?_
  refine GW_seq ?_
  refine GW_seq ?_
  refine GW_region ?_
  refine GL_rd (v := .slice _ _ _) (wn_none rfl) rfl (rd_move rfl rfl) ?_
  refine GL_rd (wn_none rfl) rfl (rd_len rfl rfl Try.underlying39) ?_
  refine GL_rd (wn_none rfl) rfl (rd_bin rfl rfl rfl bo_lss) ?_
  refine GL_nil ?_
  refine GW_cond rfl (fun hb => ?_) (fun hb => ?_)
  ·(try simp only [decide_eq_true_eq, decide_eq_false_iff_not, Bool.not_eq_true', Bool.not_eq_false', Bool.not_eq_eq_eq_not, Bool.not_true, Bool.not_false, Int.not_lt, Int.not_le] at hb)
   refine GW_skip ?_
   refine GW_block ?_
   refine GW_region ?_
   refine GL_rd (v := .slice _ _ _) (wn_none rfl) rfl (rd_move rfl rfl) ?_
   refine GL_lit (L := [.int .u8 0]) (wn_none rfl) rfl rfl Try.underlying39 ts5 tz5 rfl (by kernel_rfl) rfl rfl hp ?_
   intro g2 w hp
   refine GL_append (i := 1) (wn_none rfl) rfl rfl rfl rfl Try.underlying39 ti5 rfl (by decide) hp rfl (Sl.row (hp.get 0 rfl)) (one1 rfl) (by omega) (by omega) ?_
   intro v2 w hp
   obtain ⟨Av2, cv2, rfl⟩ := row_shape (hp.get 1 rfl)
   refine GL_rd (v := .slice _ _ _) (wn_none rfl) rfl (rd_assign rfl rfl) ?_
   refine GL_nil ?_
   have hp := hp.drop 1
   have hp : Hp w0 [] w [.row 5 1 (.slice Av2 (k + 1) cv2) (k + 1) (bys (l ++ List.replicate (k + 1 - m) 0)), cells g 44 (List.replicate 256 (.int .u8 0))] := by rw [show k + 1 - m = (k - m) + 1 by omega, List.replicate_succ', ← List.append_assoc, bys_append]; exact hp
   exact ihL0 (k + 1, Av2, cv2) _ _ (by simp only []; omega) ⟨_, slots2 rfl rfl, hp, by omega, by omega⟩
  ·(try simp only [decide_eq_true_eq, decide_eq_false_iff_not, Bool.not_eq_true', Bool.not_eq_false', Bool.not_eq_eq_eq_not, Bool.not_true, Bool.not_false, Int.not_lt, Int.not_le] at hb)
   have hkp : k = (padN 252 l).length := by simp only [padN, List.length_append, List.length_replicate]; omega
   subst hkp
   rw [show l ++ List.replicate ((padN 252 l).length - m) 0 = (padN 252 l) from by rw [padN, List.length_append, List.length_replicate]; congr 2; omega] at hp
   refine GW_exit ?_
   refine GW_seq ?_
   refine GW_region ?_
   refine GL_rd (v := .slice _ _ _) (wn_none rfl) rfl (rd_move rfl rfl) ?_
   refine GL_rd (v := .slice _ _ _) (wn_none rfl) rfl (rd_move rfl rfl) ?_
   refine GL_call (wn_none rfl) rfl rfl (ref_Of _ _ _ _ (Sl.row (hp.get 0 rfl)) (by omega)) rfl ?_
   rintro _ w ⟨rfl, hk⟩
   have hp := hp.comp hk
   refine GL_rd (wn_none rfl) rfl (rd_convE (q := ((ofB (padN 252 l)).toNat : Int)) rfl rfl Try.underlying160 Try.underlying212 (by simp) (by have := (ofB (padN 252 l)).isLt; exact IntWalk.u64_in _ (by omega))) ?_
   refine GL_call (wn_none rfl) rfl rfl (ref_Put 4 (ofB (padN 252 l)).toNat 4 _ (by have := (ofB (padN 252 l)).isLt; omega) (by decide) rfl) rfl ?_
   intro vP w hk
   have hp := hp.comp hk
   refine GL_append (i := 1) (wn_none rfl) rfl rfl rfl rfl Try.underlying39 ti5 rfl (by decide) hp rfl (Sl.row (hp.get 0 rfl)) (bys_one _) (by omega) (by omega) ?_
   intro v3 w hp
   obtain ⟨Av3, cv3, rfl⟩ := row_shape (hp.get 1 rfl)
   obtain ⟨gR, cap, hq, hcap⟩ := row_addr (hp.get 1 rfl) (by omega)
   injection hq with h1 h2 h3
   subst h1 h3
   rw [long_bys] at hp
   refine GL_rd (v := .slice _ _ _) (wn_none rfl) rfl (rd_assign rfl rfl) ?_
   refine GL_nil ?_
   refine GW_seq ?_
   refine GW_region ?_
   refine GL_alloc (wn_none rfl) rfl rfl tz44 rfl hp ?_
   intro g3 w hp
   refine GL_nil ?_
   refine GW_seq ?_
   refine GW_seq ?_
   refine GW_region ?_
   refine GL_rd (v := .int _ _) (wn_none rfl) rfl (rd_assign rfl rfl) ?_
   refine GL_nil ?_
   refine GW_block ?_
   refine GW_loop ?_
   refine Lp_ind (α := Nat) (fun a_0 f_0 w' => match a_0 with | i => ∃ fz, f_0 = (upd (upd (upd (upd fz 2 (.pointer (some ⟨g, 0, none⟩))) 3 (.slice (some ⟨gR, 0, none⟩) ((padN 252 l).length + 4) cv3)) 4 (.pointer (some ⟨g3, 0, none⟩))) 5 (.int .i64 (i : Int))) ∧ Hp w0 [] w' [cells g3 44 (bys ((longL l).take i ++ List.replicate (256 - i) 0)), .row 5 1 (.slice (some ⟨gR, 0, none⟩) ((padN 252 l).length + 4) cv3) ((padN 252 l).length + 4) (bys (longL l)), cells g 44 (List.replicate 256 (.int .u8 0))] ∧ (i ≤ 256)) (fun a_0 => match a_0 with | i => 256 - i) ?_ 0 _ _ ?_
   ·rintro i f wz ⟨fz, rfl, hp, hi0⟩ ihL1
    refine Lp_round ?_
    refine GW_seq ?_
    refine GW_seq ?_
    refine GW_region ?_
    refine GL_rd (v := .int _ _) (wn_none rfl) rfl (rd_move rfl rfl) ?_
    refine GL_rd (wn_none rfl) rfl (rd_bin rfl rfl rfl bo_lss) ?_
    refine GL_nil ?_
    refine GW_cond rfl (fun hb2 => ?_) (fun hb2 => ?_)
    ·(try simp only [decide_eq_true_eq, decide_eq_false_iff_not, Bool.not_eq_true', Bool.not_eq_false', Bool.not_eq_eq_eq_not, Bool.not_true, Bool.not_false, Int.not_lt, Int.not_le] at hb2)
     refine GW_skip ?_
     refine GW_seq ?_
     refine GW_block ?_
     refine GW_region ?_
     refine GL_rd (v := .int _ _) (wn_none rfl) rfl (rd_move rfl rfl) ?_
     refine GL_rd (v := .slice _ _ _) (wn_none rfl) rfl (rd_move rfl rfl) ?_
     refine GL_rd (v := .int _ _) (wn_none rfl) rfl (rd_move rfl rfl) ?_
     refine GL_rd (wn_none rfl) rfl (rd_indexS (j := i) rfl rfl rfl Try.underlying39 ts5 rfl (by omega) _ rfl) ?_
     refine GL_rd (wn_none rfl) rfl (rd_load rfl rfl Try.underlying5 rfl (Sl.byte (Sl.row (hp.get 1 rfl)) i (by omega))) ?_
     refine GL_rd (wn_none rfl) rfl (rd_indexA (j := i) rfl rfl rfl Try.underlying44 ts5 rfl (by omega) _ rfl) ?_
     refine GL_store (i := 0) (wn_none rfl) rfl rfl rfl rfl ts5 rfl rfl (one1 rfl) hp rfl (by rw [bys_length, List.length_append, List.length_take, List.length_replicate]; omega) (copy_at (by omega) (by omega)) ?_
     intro w hp
     refine GL_nil ?_
     refine GW_region ?_
     refine GL_rd (v := .int _ _) (wn_none rfl) rfl (rd_move rfl rfl) ?_
     refine GL_rd (wn_none rfl) rfl (rd_bin rfl rfl rfl (bo_add64 (by omega))) ?_
     refine GL_rd (v := .int _ _) (wn_none rfl) rfl (rd_assign rfl rfl) ?_
     refine GL_nil ?_
     exact ihL1 (i + 1) _ _ (by simp only []; omega) ⟨_, slots4 rfl rfl rfl rfl, hp, (by omega)⟩
    ·(try simp only [decide_eq_true_eq, decide_eq_false_iff_not, Bool.not_eq_true', Bool.not_eq_false', Bool.not_eq_eq_eq_not, Bool.not_true, Bool.not_false, Int.not_lt, Int.not_le] at hb2)
     obtain rfl : i = 256 := by omega
     rw [show (longL l).take 256 ++ List.replicate (256 - 256) 0 = secL l from by rw [Nat.sub_self, List.replicate_zero, List.append_nil, secL]] at hp
     refine GW_exit ?_
     refine GW_seq ?_
     refine GW_region ?_
     refine GL_rd (wn_none rfl) rfl (rd_loadN (L := bys (secL l)) rfl rfl Try.underlying44 rfl ts44 (by rw [bys_length, secL_length]) (fun j u hj => by rw [Nat.zero_add]; exact (cell_of_cells (hp.get 0 rfl) j).trans hj)) ?_
     refine GL_store (i := 2) (wn_none rfl) rfl rfl rfl rfl ts44 rfl (by rw [bys_length, secL_length]) (bys_one _) hp rfl (by rw [List.length_replicate]; omega) (splice_all _ _ (by rw [bys_length, secL_length, List.length_replicate])) ?_
     intro w hp
     refine GL_nil ?_
     refine GW_ret ?_
     exact ⟨_, res1 Try.results111 (rv_cell rfl rfl Try.underlying44 rfl ts44 (by rw [bys_length, secL_length]) (hp.get 2 rfl)), rfl, hp.mods⟩
   ·have hp := hp.sub (.cons_cons _ (.cons _ (.cons_cons _ (.cons_cons _ .slnil))))
    have hp : Hp w0 [] w [cells g3 44 (bys ((longL l).take 0 ++ List.replicate (256 - 0) 0)), .row 5 1 (.slice (some ⟨gR, 0, none⟩) ((padN 252 l).length + 4) cv3) ((padN 252 l).length + 4) (bys (longL l)), cells g 44 (List.replicate 256 (.int .u8 0))] := by rw [List.take_zero, List.nil_append, Nat.sub_zero, bys_replicate]; exact hp
    refine ⟨_, slots4 rfl rfl rfl rfl, hp, Nat.zero_le _⟩
 ·rw [show bys l = bys (l ++ List.replicate (0 + m - m) 0) from by rw [Nat.zero_add, Nat.sub_self]; simp] at hp
  refine ⟨_, slots2 rfl rfl, hp, by omega, by omega⟩
end Go.Proofs.Ytblpmjbddpadcaa
