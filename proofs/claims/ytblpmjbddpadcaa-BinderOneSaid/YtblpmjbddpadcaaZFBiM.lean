/- Walks of functions of the program. -/
import Derived.Test.YtblpmjbddpadcaaZFBiU
import Derived.Test.YtblpmjbddpadcaaZBinN
set_option linter.unusedVariables false
set_option linter.unusedSimpArgs false
namespace Go.Proofs.Ytblpmjbddpadcaa
open Go.Mo Go.RowKit
theorem bi_Uses (lv : Value) (m : Nat) (l : List CV) (w0 : World) (hI : Sl w0 lv 39 m (l.flatMap cvC)) (hL : cvSl w0 l) (hn : ∀ x ∈ l, x.1.texts.length ≤ 65535) (hm : m ≤ 65535) : Does Try.prog 70 #[lv] w0 fun v w' => ∃ g, v = .map (some g) ∧ Hp w0 [] w' [.blk g (.map ⟨cniE 0 (useM l)⟩ (useM l).length)] := by
 obtain ⟨A, c, rfl⟩ := sl_shape hI
 have hlm : l.length = m := Sl.cvs hI
 have hmle := hI.le
 refine does_of (l := [.slice A m c]) Try.func70 (by kernel_rfl) rfl Try.ntmps70 rfl rfl ?_
 have hp := Hp.refl w0 []
 refine GW_seq ?_
 refine GW_region ?_
 refine GL_rd (v := _) (wn_none rfl) rfl (rd_assign rfl rfl) ?_
 refine GL_nil ?_
 refine GW_seq ?_
 refine GW_region ?_
 refine GL_makeMap (wn_none rfl) rfl rfl hp ?_
 intro g w hp
 refine GL_rd (v := _) (wn_none rfl) rfl (rd_assign rfl rfl) ?_
 refine GL_nil ?_
 refine GW_seq ?_
 refine GW_seq ?_
 refine GW_region ?_
 refine GL_rd (v := .slice _ _ _) (wn_none rfl) rfl (rd_move rfl rfl) ?_
 refine GL_rd (wn_none rfl) rfl (rd_len rfl rfl Try.underlying96) ?_
 refine GL_rd (v := .int _ _) (wn_none rfl) rfl (rd_move rfl rfl) ?_
 refine GL_nil ?_
 refine GW_block ?_
 refine GW_loop ?_
 refine Lp_ind (α := Nat) (fun a_0 f_0 w' => match a_0 with | i => ∃ fz, f_0 = (upd (upd (upd (upd fz 3 (.map (some g))) 9 (.slice A m c)) 10 (.int .i64 (m : Int))) 11 (.int .i64 (i : Int))) ∧ Hp w0 [] w' [(.blk g (.map ⟨cniE 0 (useM (l.take i))⟩ (useM (l.take i)).length))] ∧ (i ≤ m)) (fun a_0 => match a_0 with | i => m - i) ?_ 0 _ _ ?_
 ·rintro i f wz ⟨fz, rfl, hp, hi0⟩ ihL0
  refine Lp_round ?_
  refine GW_seq ?_
  refine GW_region ?_
  refine GL_rd (wn_none rfl) rfl (rd_bin rfl rfl rfl bo_lss) ?_
  refine GL_nil ?_
  refine GW_seq ?_
  refine GW_cond rfl (fun hb => ?_) (fun hb => ?_)
  ·(try simp only [decide_eq_true_eq, decide_eq_false_iff_not, Bool.not_eq_true', Bool.not_eq_false', Bool.not_eq_eq_eq_not, Bool.not_true, Bool.not_false, Int.not_lt, Int.not_le] at hb)
   obtain ⟨gA, bA, rfl⟩ := hI.addr (by rw [flat_length cvC_len]; omega)
   have hTt := (hL _ (mem_at (cvAt_some (l := l) (i := i) (by omega)))).2
   have hnt := hn _ (mem_at (cvAt_some (l := l) (i := i) (by omega)))
   obtain ⟨At, ct, het⟩ := sl_shape hTt
   rw [het] at hTt
   have hTle := hTt.le
   refine GW_skip ?_
   refine GW_seq ?_
   refine GW_block ?_
   refine GW_seq ?_
   refine GW_region ?_
   refine GL_rd (wn_none rfl) rfl (rd_indexS (j := i) rfl rfl rfl Try.underlying96 ts83 rfl (by omega) _ rfl) ?_
   refine GL_rd (wn_none rfl) rfl (rd_loadN (L := (cvC (cvAt l i))) rfl rfl Try.underlying83 rfl ts83 (cvC_len _) (fun j u hj => (hI.keep hp.mod).cvE i (by omega) hj)) ?_
   refine GL_alloc (wn_none rfl) rfl rfl tz83 rfl hp ?_
   intro g2 w hp
   refine GL_store (i := 0) (wn_none rfl) rfl rfl rfl rfl ts83 rfl (cvC_len _) (cvC_one (hL _ (mem_at (cvAt_some (l := l) (i := i) (by omega))))) hp rfl (Nat.le_of_ble_eq_true rfl) (splice_all _ _ (by rw [cvC_len]; rfl)) ?_
   intro w hp
   refine GL_nil ?_
   refine GW_seq ?_
   refine GW_region ?_
   refine GL_rd (wn_none rfl) rfl (rd_field rfl rfl fa83_7 _ rfl) ?_
   refine GL_rd (v := .slice _ _ _) (wn_none rfl) rfl (rd_load rfl rfl Try.underlying32 rfl ((cell_of_cells (hp.get 0 rfl) _).trans ((clip_texts _ _ _).trans (congrArg some het)))) ?_
   refine GL_rd (wn_none rfl) rfl (rd_len rfl rfl Try.underlying32) ?_
   refine GL_rd (v := .int _ _) (wn_none rfl) rfl (rd_move rfl rfl) ?_
   refine GL_nil ?_
   refine GW_block ?_
   refine GW_loop ?_
   refine Lp_ind (α := Nat) (fun a_0 f_0 w' => match a_0 with | j => ∃ fz, f_0 = (upd (upd (upd (upd (upd (upd (upd fz 3 (.map (some g))) 9 (.slice (some ⟨gA, bA, none⟩) m c)) 10 (.int .i64 (m : Int))) 11 (.int .i64 (i : Int))) 16 (.slice At (cvAt l i).1.texts.length ct)) 17 (.int .i64 ((cvAt l i).1.texts.length : Int))) 18 (.int .i64 (j : Int))) ∧ Hp w0 [] w' [(.blk g (.map ⟨cniE 0 (tally (useM (l.take i)) ((cvAt l i).1.texts.take j))⟩ (tally (useM (l.take i)) ((cvAt l i).1.texts.take j)).length))] ∧ (j ≤ (cvAt l i).1.texts.length)) (fun a_0 => match a_0 with | j => (cvAt l i).1.texts.length - j) ?_ 0 _ _ ?_
   ·rintro j f wz ⟨fz, rfl, hp, hj0⟩ ihL1
    refine Lp_round ?_
    refine GW_seq ?_
    refine GW_region ?_
    refine GL_rd (wn_none rfl) rfl (rd_bin rfl rfl rfl bo_lss) ?_
    refine GL_nil ?_
    refine GW_seq ?_
    refine GW_cond rfl (fun hb2 => ?_) (fun hb2 => ?_)
    ·(try simp only [decide_eq_true_eq, decide_eq_false_iff_not, Bool.not_eq_true', Bool.not_eq_false', Bool.not_eq_eq_eq_not, Bool.not_true, Bool.not_false, Int.not_lt, Int.not_le] at hb2)
     obtain ⟨gB, bB, rfl⟩ := hTt.addr (by rw [List.length_map]; omega)
     have hub := use_bnd hn (intAt (cvAt l i).1.texts j) (i := i) (j := j) hnt
     refine GW_skip ?_
     refine GW_seq ?_
     refine GW_block ?_
     refine GW_seq ?_
     refine GW_region ?_
     refine GL_rd (wn_none rfl) rfl (rd_indexS (j := j) rfl rfl rfl Try.underlying32 ts3 rfl (by omega) _ rfl) ?_
     refine GL_rd (wn_none rfl) rfl (rd_load rfl rfl Try.underlying3 rfl ((hTt.keep hp.mod).get _ _ (intAt_cell (i := j) (by omega)))) ?_
     refine GL_rd (v := .int _ _) (wn_none rfl) rfl (rd_assign rfl rfl) ?_
     refine GL_nil ?_
     refine GW_region ?_
     refine GL_rd (v := _) (wn_none rfl) rfl (rd_move rfl rfl) ?_
     refine GL_rd (v := .int _ _) (wn_none rfl) rfl (rd_move rfl rfl) ?_
     refine GL_rd (wn_none rfl) rfl (rd_cniG rfl rfl rfl Try.underlying97 Try.underlying3 tz3 (hp.get 0 rfl)) ?_
     refine GL_rd (wn_none rfl) rfl (rd_bin rfl rfl rfl (bo_add64 (by omega))) ?_
     refine GL_cniPut (i := 0) (wn_none rfl) rfl rfl rfl rfl rfl Try.underlying97 Try.underlying3 hp rfl rfl ?_
     intro w hp
     refine GL_nil ?_
     refine GW_region ?_
     refine GL_rd (wn_none rfl) rfl (rd_bin rfl rfl rfl (bo_add64 (by omega))) ?_
     refine GL_rd (v := .int _ _) (wn_none rfl) rfl (rd_move rfl rfl) ?_
     refine GL_nil ?_
     rw [← tally_succ (useM (l.take i)) (l := (cvAt l i).1.texts) (j := j) (by omega)] at hp
     exact ihL1 (j + 1) _ _ (by simp only []; omega) ⟨_, slots7 rfl rfl rfl rfl rfl rfl rfl, hp, by omega⟩
    ·(try simp only [decide_eq_true_eq, decide_eq_false_iff_not, Bool.not_eq_true', Bool.not_eq_false', Bool.not_eq_eq_eq_not, Bool.not_true, Bool.not_false, Int.not_lt, Int.not_le] at hb2)
     obtain rfl : j = (cvAt l i).1.texts.length := by omega
     rw [List.take_of_length_le (Nat.le_refl _), ← useM_succ (by omega)] at hp
     refine GW_exit ?_
     refine GW_region ?_
     refine GL_rd (wn_none rfl) rfl (rd_bin rfl rfl rfl (bo_add64 (by omega))) ?_
     refine GL_rd (v := .int _ _) (wn_none rfl) rfl (rd_move rfl rfl) ?_
     refine GL_nil ?_
     have hp := ((hp.front 0 rfl).take 1)
     exact ihL0 (i + 1) _ _ (by simp only []; omega) ⟨_, slots4 rfl rfl rfl rfl, hp, by omega⟩
   ·have hp := ((hp.front 1 rfl).take 1)
    refine ⟨_, slots7 rfl rfl rfl rfl rfl rfl rfl, hp, Nat.zero_le _⟩
  ·(try simp only [decide_eq_true_eq, decide_eq_false_iff_not, Bool.not_eq_true', Bool.not_eq_false', Bool.not_eq_eq_eq_not, Bool.not_true, Bool.not_false, Int.not_lt, Int.not_le] at hb)
   obtain rfl : i = m := by omega
   rw [List.take_of_length_le (by omega)] at hp
   refine GW_exit ?_
   refine GW_seq ?_
   refine GW_region ?_
   refine GL_rd (v := _) (wn_none rfl) rfl (rd_move rfl rfl) ?_
   refine GL_rd (v := _) (wn_none rfl) rfl (rd_assign rfl rfl) ?_
   refine GL_nil ?_
   refine GW_ret ?_
   exact ⟨_, res1 Try.results70 (rv_tmp (v := _) rfl rfl), _, rfl, hp⟩
 ·refine ⟨_, slots4 rfl rfl rfl rfl, hp, Nat.zero_le _⟩
theorem bi_Most (lv : Value) (m : Nat) (l : List CV) (w0 : World) (hI : Sl w0 lv 39 m (l.flatMap cvC)) (hL : cvSl w0 l) (hn : ∀ x ∈ l, x.1.texts.length ≤ 65535) (hm : m ≤ 65535) : Does Try.prog 73 #[lv] w0 fun v w' => ∃ b : Int, v = .int .i64 b ∧ mostB l b ∧ Hp w0 [] w' [] := by
 refine does_of (l := [lv]) Try.func73 (by kernel_rfl) rfl Try.ntmps73 rfl rfl ?_
 have hp := Hp.refl w0 []
 refine GW_seq ?_
 refine GW_region ?_
 refine GL_rd (v := .int _ _) (wn_none rfl) rfl (rd_assign rfl rfl) ?_
 refine GL_nil ?_
 refine GW_seq ?_
 refine GW_region ?_
 refine GL_rd (v := .int _ _) (wn_none rfl) rfl (rd_assign rfl rfl) ?_
 refine GL_rd (v := .int _ _) (wn_none rfl) rfl (rd_assign rfl rfl) ?_
 refine GL_nil ?_
 refine GW_seq ?_
 refine GW_seq ?_
 refine GW_region ?_
 refine GL_rd (v := lv) (wn_none rfl) rfl (rd_move rfl rfl) ?_
 refine GL_call (wn_none rfl) rfl rfl (bi_Uses lv m l _ (hI.keep hp.mod) (cvSl_keep hL hp.mod) hn hm) rfl ?_
 rintro _ w ⟨g, rfl, hk⟩
 have hp := hp.comp hk
 refine GL_range (i := 0) (wn_none rfl) rfl rfl rfl Try.underlying97 hp rfl ?_
 intro r w hp
 refine GL_nil ?_
 refine GW_block ?_
 refine GW_loop ?_
 refine Lp_ind (α := Int × Int × Array Nat × Nat) (fun a_0 f_0 w' => match a_0 with | (b, k, seen, c0) => ∃ fz, f_0 = (upd (upd (upd fz 3 (.int .i64 b)) 4 (.int .i64 k)) 9 (.pointer (some ⟨r, 0, none⟩))) ∧ Hp w0 [] w' [.blk r (.mapIter (some g) (useM l).length seen c0), (.blk g (.map ⟨cniE 0 (useM l)⟩ (useM l).length))] ∧ ((useM l).length ≤ c0) ∧ (bestOk (seenP (useM l) seen) b k)) (fun a_0 => match a_0 with | (b, k, seen, c0) => (leftOf ⟨cniE 0 (useM l)⟩ seen).size) ?_ (-1, 0, #[], (useM l).length) _ _ ?_
 ·rintro ⟨b, k, seen, c0⟩ f wz ⟨fz, rfl, hp, hc0, hbk⟩ ihL0
  refine Lp_round ?_
  refine GW_seq ?_
  refine GW_region ?_
  refine GL_next (i := 0) (j := 1) (wn_none rfl) rfl rfl rfl hp rfl rfl (fun e he => by have := cniE_born _ 0 e he; omega) hc0 (fun h0 => ?_) (fun e w he hp => ?_)
  ·skip
   refine GL_rd (v := .bool _) (wn_none rfl) rfl (rd_extract rfl rfl rfl) ?_
   refine GL_nil ?_
   refine GW_seq ?_
   refine GW_false rfl ?_
   refine GW_exit ?_
   refine GW_seq ?_
   refine GW_region ?_
   refine GL_rd (v := .int _ _) (wn_none rfl) rfl (rd_move rfl rfl) ?_
   refine GL_rd (v := .int _ _) (wn_none rfl) rfl (rd_assign rfl rfl) ?_
   refine GL_nil ?_
   refine GW_ret ?_
   exact ⟨_, res1 Try.results73 (rv_tmp (v := .int _ _) rfl rfl), _, rfl, ⟨_, hbk.congr (fun t k => seenP_all h0 t k)⟩, hp.mods⟩
  ·skip
   have hm8 := mem_left he
   obtain ⟨q, hq1, hq2, hk1, hk2⟩ := cniE_mem _ 0 e hm8.1
   rw [Nat.sub_zero] at hq2
   have hq3 := (useM_ok l).2 q hq1
   rw [hk1, hk2]
   refine GL_rd (v := .bool _) (wn_none rfl) rfl (rd_extract rfl rfl rfl) ?_
   refine GL_nil ?_
   refine GW_seq ?_
   refine GW_true rfl ?_
   refine GW_skip ?_
   refine GW_block ?_
   refine GW_seq ?_
   refine GW_region ?_
   refine GL_rd (v := .tuple #[.int .i64 q.1, .int .i64 q.2]) (wn_none rfl) rfl (by rw [← hk1, ← hk2]; exact rd_entry rfl rfl (hp.get 0 rfl) (hp.get 1 rfl) hm8.1 (cniE_nodup _ 0)) ?_
   refine GL_rd (v := .int _ _) (wn_none rfl) rfl (rd_extract rfl rfl rfl) ?_
   refine GL_rd (v := .int _ _) (wn_none rfl) rfl (rd_extract rfl rfl rfl) ?_
   refine GL_rd (v := .int _ _) (wn_none rfl) rfl (rd_assign rfl rfl) ?_
   refine GL_rd (v := .int _ _) (wn_none rfl) rfl (rd_assign rfl rfl) ?_
   refine GL_nil ?_
   refine GW_seq ?_
   refine GW_region ?_
   refine GL_rd (v := .int _ _) (wn_none rfl) rfl (rd_move rfl rfl) ?_
   refine GL_rd (v := .int _ _) (wn_none rfl) rfl (rd_move rfl rfl) ?_
   refine GL_rd (wn_none rfl) rfl (rd_bin rfl rfl rfl bo_gtr) ?_
   refine GL_rd (v := .bool _) (wn_none rfl) rfl (rd_move rfl rfl) ?_
   refine GL_split (t := 18) (b := _) rfl ?_ ?_
   ·intro hb; (try simp only [decide_eq_true_eq, decide_eq_false_iff_not, Bool.not_eq_true', Bool.not_eq_false', Bool.not_eq_eq_eq_not, Bool.not_true, Bool.not_false, Int.not_lt, Int.not_le] at hb)
    have hy : q.2 > k ∨ (q.2 = k ∧ q.1 < b) := by omega
    refine GL_pass (nw_off rfl rfl rfl rfl rfl) rfl ?_
    refine GL_pass (nw_off rfl rfl rfl rfl rfl) rfl ?_
    refine GL_pass (nw_off rfl rfl rfl rfl rfl) rfl ?_
    refine GL_pass (nw_off rfl rfl rfl rfl rfl) rfl ?_
    refine GL_pass (nw_undef rfl rfl rfl rfl) rfl ?_
    refine GL_pass (nw_undef rfl rfl rfl rfl) rfl ?_
    refine GL_pass (nw_undef rfl rfl rfl rfl) rfl ?_
    refine GL_pass (nw_off rfl rfl rfl rfl rfl) rfl ?_
    refine GL_rd (v := .bool _) (wn_none rfl) rfl (rd_pickT rfl rfl rfl) ?_
    refine GL_nil ?_
    refine GW_true rfl ?_
    refine GW_region ?_
    refine GL_rd (v := .int _ _) (wn_none rfl) rfl (rd_move rfl rfl) ?_
    refine GL_rd (v := .int _ _) (wn_none rfl) rfl (rd_move rfl rfl) ?_
    refine GL_rd (v := .int _ _) (wn_none rfl) rfl (rd_assign rfl rfl) ?_
    refine GL_rd (v := .int _ _) (wn_none rfl) rfl (rd_assign rfl rfl) ?_
    refine GL_nil ?_
    exact ihL0 (q.1, q.2, seen.push e.born, (useM l).length) _ _ (left_shrinks _ _ e he) ⟨_, slots3 rfl rfl rfl, hp, Nat.le_refl _, hbk.yes (seenP_push hq2) hy⟩
   ·intro hb; (try simp only [decide_eq_true_eq, decide_eq_false_iff_not, Bool.not_eq_true', Bool.not_eq_false', Bool.not_eq_eq_eq_not, Bool.not_true, Bool.not_false, Int.not_lt, Int.not_le] at hb)
    refine GL_rd (v := .int _ _) (wn_on rfl rfl rfl rfl) rfl (rd_move rfl rfl) ?_
    refine GL_rd (v := .int _ _) (wn_on rfl rfl rfl rfl) rfl (rd_move rfl rfl) ?_
    refine GL_rd (wn_on rfl rfl rfl rfl) rfl (rd_bin rfl rfl rfl bo_eql) ?_
    refine GL_rd (v := .bool _) (wn_on rfl rfl rfl rfl) rfl (rd_move rfl rfl) ?_
    refine GL_split (t := 22) (b := _) rfl ?_ ?_
    ·intro hb2; (try simp only [decide_eq_true_eq, decide_eq_false_iff_not, Bool.not_eq_true', Bool.not_eq_false', Bool.not_eq_eq_eq_not, Bool.not_true, Bool.not_false, Int.not_lt, Int.not_le] at hb2)
     refine GL_rd (v := .int _ _) (wn_on rfl rfl rfl rfl) rfl (rd_move rfl rfl) ?_
     refine GL_rd (v := .int _ _) (wn_on rfl rfl rfl rfl) rfl (rd_move rfl rfl) ?_
     refine GL_rd (wn_on rfl rfl rfl rfl) rfl (rd_bin rfl rfl rfl bo_lss) ?_
     refine GL_rd (v := .bool _) (wn_on rfl rfl rfl rfl) rfl (rd_pickT rfl rfl rfl) ?_
     refine GL_rd (v := .bool _) (wn_none rfl) rfl (rd_pickF rfl rfl rfl) ?_
     refine GL_nil ?_
     refine GW_cond rfl (fun hb3 => ?_) (fun hb3 => ?_)
     ·(try simp only [decide_eq_true_eq, decide_eq_false_iff_not, Bool.not_eq_true', Bool.not_eq_false', Bool.not_eq_eq_eq_not, Bool.not_true, Bool.not_false, Int.not_lt, Int.not_le] at hb3)
      have hy : q.2 > k ∨ (q.2 = k ∧ q.1 < b) := by omega
      refine GW_region ?_
      refine GL_rd (v := .int _ _) (wn_none rfl) rfl (rd_move rfl rfl) ?_
      refine GL_rd (v := .int _ _) (wn_none rfl) rfl (rd_move rfl rfl) ?_
      refine GL_rd (v := .int _ _) (wn_none rfl) rfl (rd_assign rfl rfl) ?_
      refine GL_rd (v := .int _ _) (wn_none rfl) rfl (rd_assign rfl rfl) ?_
      refine GL_nil ?_
      exact ihL0 (q.1, q.2, seen.push e.born, (useM l).length) _ _ (left_shrinks _ _ e he) ⟨_, slots3 rfl rfl rfl, hp, Nat.le_refl _, hbk.yes (seenP_push hq2) hy⟩
     ·(try simp only [decide_eq_true_eq, decide_eq_false_iff_not, Bool.not_eq_true', Bool.not_eq_false', Bool.not_eq_eq_eq_not, Bool.not_true, Bool.not_false, Int.not_lt, Int.not_le] at hb3)
      have hy : ¬ (q.2 > k ∨ (q.2 = k ∧ q.1 < b)) := by omega
      refine GW_skip ?_
      exact ihL0 (b, k, seen.push e.born, (useM l).length) _ _ (left_shrinks _ _ e he) ⟨_, slots3 rfl rfl rfl, hp, Nat.le_refl _, hbk.no (seenP_push hq2) hq3 hy⟩
    ·intro hb2; (try simp only [decide_eq_true_eq, decide_eq_false_iff_not, Bool.not_eq_true', Bool.not_eq_false', Bool.not_eq_eq_eq_not, Bool.not_true, Bool.not_false, Int.not_lt, Int.not_le] at hb2)
     have hy : ¬ (q.2 > k ∨ (q.2 = k ∧ q.1 < b)) := by omega
     refine GL_pass (nw_off rfl rfl rfl rfl rfl) rfl ?_
     refine GL_pass (nw_off rfl rfl rfl rfl rfl) rfl ?_
     refine GL_pass (nw_off rfl rfl rfl rfl rfl) rfl ?_
     refine GL_rd (v := .bool _) (wn_on rfl rfl rfl rfl) rfl (rd_pickF rfl rfl rfl) ?_
     refine GL_rd (v := .bool _) (wn_none rfl) rfl (rd_pickF rfl rfl rfl) ?_
     refine GL_nil ?_
     refine GW_false rfl ?_
     refine GW_skip ?_
     exact ihL0 (b, k, seen.push e.born, (useM l).length) _ _ (left_shrinks _ _ e he) ⟨_, slots3 rfl rfl rfl, hp, Nat.le_refl _, hbk.no (seenP_push hq2) hq3 hy⟩
 ·refine ⟨_, slots3 rfl rfl rfl, hp, Nat.le_refl _, bestOk.first (seenP_none _)⟩
end Go.Proofs.Ytblpmjbddpadcaa
