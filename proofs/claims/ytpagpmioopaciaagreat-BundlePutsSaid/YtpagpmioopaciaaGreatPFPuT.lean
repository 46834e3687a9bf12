/- Walks of functions of the program. -/
import Derived.Test.YtpagpmioopaciaaGreatPFPut
set_option linter.unusedVariables false
set_option linter.unusedSimpArgs false
namespace Go.Proofs.YtpagpmioopaciaaGreat
open Go.Mo Go.RowKit
theorem ref_behind (R0 : Res) (sv : Value) (l : List UInt8) (a : A32) (w0 : World) (hR : apdR 5 R0 sv l) (hr : Hp w0 R0.foot w0 [R0]) (hbb : l.length ≤ 4294967296) : Does Tryz.prog 85 #[sv, .agg ⟨bys a.1⟩] w0 fun v w' => Hp w0 R0.foot w' [.row 5 1 v (l ++ a.1).length (bys (l ++ a.1))] := by
 refine does_of (l := [sv, .agg ⟨bys a.1⟩]) Tryz.func85 (by kernel_rfl) rfl Tryz.ntmps85 rfl rfl (by kernel_rfl) ?_
 have hp := hr
 refine GW_seq ?_
 refine GW_region ?_
 refine GL_box (wn_none rfl) rfl rfl rfl rfl hp ?_
 intro g w hp
 refine GL_rd (v := .slice _ _ _) (wn_none rfl) rfl (rd_assign rfl rfl) ?_
 refine GL_nil ?_
 refine GW_seq ?_
 refine GW_region ?_
 refine GL_rd (v := sv) (wn_none rfl) rfl (rd_move rfl rfl) ?_
 refine GL_rd (v := sv) (wn_none rfl) rfl (rd_assign rfl rfl) ?_
 refine GL_nil ?_
 refine GW_seq ?_
 refine GW_seq ?_
 refine GW_region ?_
 refine GL_rd (v := .int _ _) (wn_none rfl) rfl (rd_assign rfl rfl) ?_
 refine GL_nil ?_
 refine GW_block ?_
 refine GW_loop ?_
 refine Lp_ind (α := Nat × Value × Res) (fun a_0 f_0 w' => match a_0 with | (i, v, r) => ∃ fz, f_0 = (upd (upd (upd fz 5 (v)) 6 (.int .i64 (i : Int))) 3 (.pointer (some ⟨g, 0, none⟩))) ∧ Hp w0 R0.foot w' [r, cells g 30 (bys (a).1)] ∧ (i ≤ 32) ∧ (r = (.row 5 1 v (l.length + i) (bys (l ++ a.1.take i))) ∨ (i = 0 ∧ ∃ g0, 0 < l.length ∧ v = .slice (some ⟨g0, 0, none⟩) l.length l.length ∧ r = .blk g0 (.cells ⟨bys l⟩ 5 (l.length, l.length + 1))))) (fun a_0 => match a_0 with | (i, v, r) => 32 - i) ?_ (0, sv, R0) _ _ ?_
 ·rintro ⟨i, v, r⟩ f wz ⟨fz, rfl, hp, hi0, hr0⟩ ihL0
  refine Lp_round ?_
  refine GW_seq ?_
  refine GW_seq ?_
  refine GW_region ?_
  refine GL_rd (v := .int _ _) (wn_none rfl) rfl (rd_move rfl rfl) ?_
  refine GL_rd (wn_none rfl) rfl (rd_bin rfl rfl rfl bo_lss) ?_
  refine GL_nil ?_
  refine GW_cond rfl (fun hb => ?_) (fun hb => ?_)
  ·(try simp only [decide_eq_true_eq, decide_eq_false_iff_not, Bool.not_eq_true', Bool.not_eq_false', Bool.not_eq_eq_eq_not, Bool.not_true, Bool.not_false, Int.not_lt, Int.not_le] at hb)
   refine GW_skip ?_
   refine GW_seq ?_
   refine GW_block ?_
   rcases hr0 with rfl | ⟨rfl, g0, hpos, rfl, rfl⟩
   ·skip
    refine GW_region ?_
    refine GL_rd (wn_none rfl) rfl (rd_move rfl rfl) ?_
    refine GL_rd (v := .int _ _) (wn_none rfl) rfl (rd_move rfl rfl) ?_
    refine GL_rd (wn_none rfl) rfl (rd_indexA (j := i) rfl rfl rfl Tryz.underlying30 ts5 rfl (by omega) _ rfl) ?_
    refine GL_rd (wn_none rfl) rfl (rd_load rfl rfl Tryz.underlying5 rfl ((cell_of_cells (hp.get 1 rfl) _).trans (by rw [Nat.zero_add, Nat.mul_one]; exact bys_getD _ _ (by rw [a.2]; omega)))) ?_
    refine GL_lit (L := (bys [a.1.getD i 0])) (wn_none rfl) rfl rfl Tryz.underlying35 ts5 tz5 rfl (by kernel_rfl) rfl rfl hp ?_
    intro g2 w hp
    refine GL_append (i := 1) (wn_none rfl) rfl rfl rfl rfl Tryz.underlying35 ti5 rfl (by decide) hp rfl (Sl.row (hp.get 0 rfl)) (bys_one _) (by omega) (by omega) ?_
    intro v w hp
    rw [← bys_append] at hp
    refine GL_rd (v := v) (wn_none rfl) rfl (rd_assign rfl rfl) ?_
    refine GL_nil ?_
    refine GW_region ?_
    refine GL_rd (v := .int _ _) (wn_none rfl) rfl (rd_move rfl rfl) ?_
    refine GL_rd (wn_none rfl) rfl (rd_bin rfl rfl rfl (bo_add64 (by omega))) ?_
    refine GL_rd (v := .int _ _) (wn_none rfl) rfl (rd_assign rfl rfl) ?_
    refine GL_nil ?_
    have hp := (((hp.front 2 rfl).front 2 rfl).take 2)
    have hp := hp.cast (show _ = [(.row 5 1 v (l.length + (i + 1)) (bys (l ++ a.1.take (i + 1)))), cells g 30 (bys (a).1)] by rw [← List.take_succ_eq_append_getD (by rw [a.2]; omega), ← List.append_assoc]; rfl)
    exact ihL0 (i + 1, v, (.row 5 1 v (l.length + (i + 1)) (bys (l ++ a.1.take (i + 1))))) _ _ (by simp only []; omega) ⟨_, slots3 rfl rfl rfl, hp, by omega, .inl rfl⟩
   ·skip
    refine GW_region ?_
    refine GL_rd (wn_none rfl) rfl (rd_move rfl rfl) ?_
    refine GL_rd (v := .int _ _) (wn_none rfl) rfl (rd_move rfl rfl) ?_
    refine GL_rd (wn_none rfl) rfl (rd_indexA (j := 0) rfl rfl rfl Tryz.underlying30 ts5 rfl (by omega) _ rfl) ?_
    refine GL_rd (wn_none rfl) rfl (rd_load rfl rfl Tryz.underlying5 rfl ((cell_of_cells (hp.get 1 rfl) _).trans (by rw [Nat.zero_add, Nat.mul_one]; exact bys_getD _ _ (by rw [a.2]; omega)))) ?_
    refine GL_lit (L := (bys [a.1.getD 0 0])) (wn_none rfl) rfl rfl Tryz.underlying35 ts5 tz5 rfl (by kernel_rfl) rfl rfl hp ?_
    intro g3 w hp
    refine GL_appendFull (wn_none rfl) rfl rfl rfl rfl Tryz.underlying35 ti5 rfl (by decide) hp (Sl.blk (hp.get 1 rfl) 1 _ (by rw [bys_length, Nat.mul_one]) (by simp only [maxLen]; omega)) (Sl.row (hp.get 0 rfl)) (by omega) hpos (by decide) (by omega) (by omega) ?_
    intro v2 w hp
    rw [← bys_append] at hp
    refine GL_rd (v := v2) (wn_none rfl) rfl (rd_assign rfl rfl) ?_
    refine GL_nil ?_
    refine GW_region ?_
    refine GL_rd (v := .int _ _) (wn_none rfl) rfl (rd_move rfl rfl) ?_
    refine GL_rd (wn_none rfl) rfl (rd_bin rfl rfl rfl (bo_add64 (by omega))) ?_
    refine GL_rd (v := .int _ _) (wn_none rfl) rfl (rd_assign rfl rfl) ?_
    refine GL_nil ?_
    have hp := (((hp.front 3 rfl).front 1 rfl).take 2)
    have hp := hp.cast (show _ = [(.row 5 1 v2 (l.length + (0 + 1)) (bys (l ++ a.1.take (0 + 1)))), cells g 30 (bys (a).1)] by rw [← List.take_succ_eq_append_getD (by rw [a.2]; omega), List.take_zero, List.nil_append]; rfl)
    exact ihL0 (0 + 1, v2, (.row 5 1 v2 (l.length + (0 + 1)) (bys (l ++ a.1.take (0 + 1))))) _ _ (by simp only []; omega) ⟨_, slots3 rfl rfl rfl, hp, by omega, .inl rfl⟩
  ·(try simp only [decide_eq_true_eq, decide_eq_false_iff_not, Bool.not_eq_true', Bool.not_eq_false', Bool.not_eq_eq_eq_not, Bool.not_true, Bool.not_false, Int.not_lt, Int.not_le] at hb)
   obtain rfl : i = 32 := by omega
   refine GW_exit ?_
   refine GW_seq ?_
   refine GW_region ?_
   refine GL_rd (v := v) (wn_none rfl) rfl (rd_move rfl rfl) ?_
   refine GL_rd (v := v) (wn_none rfl) rfl (rd_assign rfl rfl) ?_
   refine GL_nil ?_
   refine GW_ret ?_
   obtain rfl := hr0.resolve_right (fun h => absurd h.1 (by decide))
   have hp := ((hp.front 0 rfl).take 1)
   rw [List.take_of_length_le (l := a.1) (by rw [a.2]; decide)] at hp
   have en := row_n (hp.get 0 rfl)
   rw [en] at hp
   exact ⟨_, res1 Tryz.results85 (rv_tmp (v := v) rfl rfl), hp⟩
 ·have hp := (((hp.front 0 rfl).front 1 rfl).take 2)
  refine ⟨_, slots3 rfl rfl rfl, hp, Nat.zero_le _, by rcases hR with h | ⟨g0, h0, h1, h2⟩; exact .inl (by rw [h, List.take_zero, List.append_nil]; rfl); exact .inr ⟨rfl, g0, h0, h1, h2⟩⟩
theorem ref_behind3 (R0 : Res) (sv : Value) (l : List UInt8) (a : A32) (w0 : World) (hR : apdR 5 R0 sv l) (hr : Hp w0 R0.foot w0 [R0]) (hbb : l.length ≤ 4294967296) : Does Tryz.prog 23 #[sv, .agg ⟨bys a.1⟩] w0 fun v w' => Hp w0 R0.foot w' [.row 5 1 v (l ++ a.1).length (bys (l ++ a.1))] := by
 refine does_of (l := [sv, .agg ⟨bys a.1⟩]) Tryz.func23 (by kernel_rfl) rfl Tryz.ntmps23 rfl rfl (by kernel_rfl) ?_
 have hp := hr
 refine GW_seq ?_
 refine GW_region ?_
 refine GL_box (wn_none rfl) rfl rfl rfl rfl hp ?_
 intro g w hp
 refine GL_rd (v := .slice _ _ _) (wn_none rfl) rfl (rd_assign rfl rfl) ?_
 refine GL_nil ?_
 refine GW_seq ?_
 refine GW_region ?_
 refine GL_rd (v := sv) (wn_none rfl) rfl (rd_move rfl rfl) ?_
 refine GL_rd (v := sv) (wn_none rfl) rfl (rd_assign rfl rfl) ?_
 refine GL_nil ?_
 refine GW_seq ?_
 refine GW_seq ?_
 refine GW_region ?_
 refine GL_rd (v := .int _ _) (wn_none rfl) rfl (rd_assign rfl rfl) ?_
 refine GL_nil ?_
 refine GW_block ?_
 refine GW_loop ?_
 refine Lp_ind (α := Nat × Value × Res) (fun a_0 f_0 w' => match a_0 with | (i, v, r) => ∃ fz, f_0 = (upd (upd (upd fz 5 (v)) 6 (.int .i64 (i : Int))) 3 (.pointer (some ⟨g, 0, none⟩))) ∧ Hp w0 R0.foot w' [r, cells g 30 (bys (a).1)] ∧ (i ≤ 32) ∧ (r = (.row 5 1 v (l.length + i) (bys (l ++ a.1.take i))) ∨ (i = 0 ∧ ∃ g0, 0 < l.length ∧ v = .slice (some ⟨g0, 0, none⟩) l.length l.length ∧ r = .blk g0 (.cells ⟨bys l⟩ 5 (l.length, l.length + 1))))) (fun a_0 => match a_0 with | (i, v, r) => 32 - i) ?_ (0, sv, R0) _ _ ?_
 ·rintro ⟨i, v, r⟩ f wz ⟨fz, rfl, hp, hi0, hr0⟩ ihL0
  refine Lp_round ?_
  refine GW_seq ?_
  refine GW_seq ?_
  refine GW_region ?_
  refine GL_rd (v := .int _ _) (wn_none rfl) rfl (rd_move rfl rfl) ?_
  refine GL_rd (wn_none rfl) rfl (rd_bin rfl rfl rfl bo_lss) ?_
  refine GL_nil ?_
  refine GW_cond rfl (fun hb => ?_) (fun hb => ?_)
  ·(try simp only [decide_eq_true_eq, decide_eq_false_iff_not, Bool.not_eq_true', Bool.not_eq_false', Bool.not_eq_eq_eq_not, Bool.not_true, Bool.not_false, Int.not_lt, Int.not_le] at hb)
   refine GW_skip ?_
   refine GW_seq ?_
   refine GW_block ?_
   rcases hr0 with rfl | ⟨rfl, g0, hpos, rfl, rfl⟩
   ·skip
    refine GW_region ?_
    refine GL_rd (wn_none rfl) rfl (rd_move rfl rfl) ?_
    refine GL_rd (v := .int _ _) (wn_none rfl) rfl (rd_move rfl rfl) ?_
    refine GL_rd (wn_none rfl) rfl (rd_indexA (j := i) rfl rfl rfl Tryz.underlying30 ts5 rfl (by omega) _ rfl) ?_
    refine GL_rd (wn_none rfl) rfl (rd_load rfl rfl Tryz.underlying5 rfl ((cell_of_cells (hp.get 1 rfl) _).trans (by rw [Nat.zero_add, Nat.mul_one]; exact bys_getD _ _ (by rw [a.2]; omega)))) ?_
    refine GL_lit (L := (bys [a.1.getD i 0])) (wn_none rfl) rfl rfl Tryz.underlying35 ts5 tz5 rfl (by kernel_rfl) rfl rfl hp ?_
    intro g2 w hp
    refine GL_append (i := 1) (wn_none rfl) rfl rfl rfl rfl Tryz.underlying35 ti5 rfl (by decide) hp rfl (Sl.row (hp.get 0 rfl)) (bys_one _) (by omega) (by omega) ?_
    intro v w hp
    rw [← bys_append] at hp
    refine GL_rd (v := v) (wn_none rfl) rfl (rd_assign rfl rfl) ?_
    refine GL_nil ?_
    refine GW_region ?_
    refine GL_rd (v := .int _ _) (wn_none rfl) rfl (rd_move rfl rfl) ?_
    refine GL_rd (wn_none rfl) rfl (rd_bin rfl rfl rfl (bo_add64 (by omega))) ?_
    refine GL_rd (v := .int _ _) (wn_none rfl) rfl (rd_assign rfl rfl) ?_
    refine GL_nil ?_
    have hp := (((hp.front 2 rfl).front 2 rfl).take 2)
    have hp := hp.cast (show _ = [(.row 5 1 v (l.length + (i + 1)) (bys (l ++ a.1.take (i + 1)))), cells g 30 (bys (a).1)] by rw [← List.take_succ_eq_append_getD (by rw [a.2]; omega), ← List.append_assoc]; rfl)
    exact ihL0 (i + 1, v, (.row 5 1 v (l.length + (i + 1)) (bys (l ++ a.1.take (i + 1))))) _ _ (by simp only []; omega) ⟨_, slots3 rfl rfl rfl, hp, by omega, .inl rfl⟩
   ·skip
    refine GW_region ?_
    refine GL_rd (wn_none rfl) rfl (rd_move rfl rfl) ?_
    refine GL_rd (v := .int _ _) (wn_none rfl) rfl (rd_move rfl rfl) ?_
    refine GL_rd (wn_none rfl) rfl (rd_indexA (j := 0) rfl rfl rfl Tryz.underlying30 ts5 rfl (by omega) _ rfl) ?_
    refine GL_rd (wn_none rfl) rfl (rd_load rfl rfl Tryz.underlying5 rfl ((cell_of_cells (hp.get 1 rfl) _).trans (by rw [Nat.zero_add, Nat.mul_one]; exact bys_getD _ _ (by rw [a.2]; omega)))) ?_
    refine GL_lit (L := (bys [a.1.getD 0 0])) (wn_none rfl) rfl rfl Tryz.underlying35 ts5 tz5 rfl (by kernel_rfl) rfl rfl hp ?_
    intro g3 w hp
    refine GL_appendFull (wn_none rfl) rfl rfl rfl rfl Tryz.underlying35 ti5 rfl (by decide) hp (Sl.blk (hp.get 1 rfl) 1 _ (by rw [bys_length, Nat.mul_one]) (by simp only [maxLen]; omega)) (Sl.row (hp.get 0 rfl)) (by omega) hpos (by decide) (by omega) (by omega) ?_
    intro v2 w hp
    rw [← bys_append] at hp
    refine GL_rd (v := v2) (wn_none rfl) rfl (rd_assign rfl rfl) ?_
    refine GL_nil ?_
    refine GW_region ?_
    refine GL_rd (v := .int _ _) (wn_none rfl) rfl (rd_move rfl rfl) ?_
    refine GL_rd (wn_none rfl) rfl (rd_bin rfl rfl rfl (bo_add64 (by omega))) ?_
    refine GL_rd (v := .int _ _) (wn_none rfl) rfl (rd_assign rfl rfl) ?_
    refine GL_nil ?_
    have hp := (((hp.front 3 rfl).front 1 rfl).take 2)
    have hp := hp.cast (show _ = [(.row 5 1 v2 (l.length + (0 + 1)) (bys (l ++ a.1.take (0 + 1)))), cells g 30 (bys (a).1)] by rw [← List.take_succ_eq_append_getD (by rw [a.2]; omega), List.take_zero, List.nil_append]; rfl)
    exact ihL0 (0 + 1, v2, (.row 5 1 v2 (l.length + (0 + 1)) (bys (l ++ a.1.take (0 + 1))))) _ _ (by simp only []; omega) ⟨_, slots3 rfl rfl rfl, hp, by omega, .inl rfl⟩
  ·(try simp only [decide_eq_true_eq, decide_eq_false_iff_not, Bool.not_eq_true', Bool.not_eq_false', Bool.not_eq_eq_eq_not, Bool.not_true, Bool.not_false, Int.not_lt, Int.not_le] at hb)
   obtain rfl : i = 32 := by omega
   refine GW_exit ?_
   refine GW_seq ?_
   refine GW_region ?_
   refine GL_rd (v := v) (wn_none rfl) rfl (rd_move rfl rfl) ?_
   refine GL_rd (v := v) (wn_none rfl) rfl (rd_assign rfl rfl) ?_
   refine GL_nil ?_
   refine GW_ret ?_
   obtain rfl := hr0.resolve_right (fun h => absurd h.1 (by decide))
   have hp := ((hp.front 0 rfl).take 1)
   rw [List.take_of_length_le (l := a.1) (by rw [a.2]; decide)] at hp
   have en := row_n (hp.get 0 rfl)
   rw [en] at hp
   exact ⟨_, res1 Tryz.results23 (rv_tmp (v := v) rfl rfl), hp⟩
 ·have hp := (((hp.front 0 rfl).front 1 rfl).take 2)
  refine ⟨_, slots3 rfl rfl rfl, hp, Nat.zero_le _, by rcases hR with h | ⟨g0, h0, h1, h2⟩; exact .inl (by rw [h, List.take_zero, List.append_nil]; rfl); exact .inr ⟨rfl, g0, h0, h1, h2⟩⟩
theorem ref_Leaf (f : Nat) (sv : Value) (l : List UInt8) (w0 : World) (hs : Sl w0 sv 1 l.length (bys l)) (hf : f ≤ 4294967295) (hb : l.length ≤ 1048576) : Does Tryz.prog 86 #[.int .i64 (f : Int), sv] w0 fun v w' => Hp w0 [] w' [.row 5 1 v (leafW ++ (putL f 4 ++ l)).length (bys (leafW ++ (putL f 4 ++ l)))] := by
 obtain ⟨A, c, rfl⟩ := sl_shape hs
 refine does_of (l := [.int .i64 (f : Int), .slice A l.length c]) Tryz.func86 (by kernel_rfl) rfl Tryz.ntmps86 rfl rfl (by kernel_rfl) ?_
 have hp := Hp.refl w0 []
 refine GW_seq ?_
 refine GW_region ?_
 refine GL_rd (v := .slice _ _ _) (wn_none rfl) rfl (rd_assign rfl rfl) ?_
 refine GL_nil ?_
 refine GW_seq ?_
 refine GW_region ?_
 refine GL_lit (L := (bys leafW)) (wn_none rfl) rfl rfl Tryz.underlying35 ts5 tz5 rfl (by kernel_rfl) rfl rfl hp ?_
 intro g w hp
 refine GL_convB (i := 0) (wn_none rfl) rfl rfl rfl Tryz.underlying35 Tryz.underlying5 hp rfl ?_
 intro w hp
 refine GL_rd (v := .slice _ _ _) (wn_none rfl) rfl (rd_assign rfl rfl) ?_
 refine GL_nil ?_
 refine GW_seq ?_
 refine GW_region ?_
 refine GL_rd (v := .slice _ _ _) (wn_none rfl) rfl (rd_move rfl rfl) ?_
 refine GL_rd (v := .int _ _) (wn_none rfl) rfl (rd_move rfl rfl) ?_
 refine GL_rd (wn_none rfl) rfl (rd_convE (q := (f : Int)) rfl rfl Tryz.underlying62 Tryz.underlying3 (by simp) (IntWalk.u64_in _ (by omega))) ?_
 refine GL_call (wn_none rfl) rfl rfl (ref_Put 4 f 4 _ (by omega) (by decide) rfl) rfl ?_
 intro q w hk
 have hp := hp.comp hk
 refine GL_appendFull (wn_none rfl) rfl rfl rfl rfl Tryz.underlying35 ti5 rfl (by decide) hp (Sl.blk (hp.get 1 rfl) 1 _ rfl (by simp [maxLen])) (Sl.row (hp.get 0 rfl)) (by omega) (by decide) (by omega) (by omega) (by omega) ?_
 intro v w hp
 rw [← bys_append] at hp
 refine GL_rd (v := v) (wn_none rfl) rfl (rd_assign rfl rfl) ?_
 refine GL_nil ?_
 refine GW_seq ?_
 refine GW_region ?_
 refine GL_rd (v := v) (wn_none rfl) rfl (rd_move rfl rfl) ?_
 refine GL_rd (v := .slice _ _ _) (wn_none rfl) rfl (rd_move rfl rfl) ?_
 refine GL_append (i := 0) (wn_none rfl) rfl rfl rfl rfl Tryz.underlying35 ti5 rfl (by decide) hp rfl (hs.keep hp.mod) (bys_one _) (by omega) (by omega) ?_
 intro v2 w hp
 rw [← bys_append] at hp
 refine GL_rd (v := v2) (wn_none rfl) rfl (rd_assign rfl rfl) ?_
 refine GL_nil ?_
 refine GW_ret ?_
 have hp := ((hp.front 0 rfl).take 1)
 have hp := hp.cast (show _ = [.row 5 1 v2 _ (bys (leafW ++ (putL f 4 ++ l)))] by simp only [List.append_assoc]; rfl)
 have en := row_n (hp.get 0 rfl)
 rw [en] at hp
 exact ⟨_, res1 Tryz.results86 (rv_tmp (v := v2) rfl rfl), hp⟩
theorem ref_Node (a b : A32) (w0 : World) : Does Tryz.prog 88 #[.agg ⟨bys a.1⟩, .agg ⟨bys b.1⟩] w0 fun v w' => Hp w0 [] w' [.row 5 1 v (nodeW ++ (a.1 ++ b.1)).length (bys (nodeW ++ (a.1 ++ b.1)))] := by
 refine does_of (l := [.agg ⟨bys a.1⟩, .agg ⟨bys b.1⟩]) Tryz.func88 (by kernel_rfl) rfl Tryz.ntmps88 rfl rfl (by kernel_rfl) ?_
 have hp := Hp.refl w0 []
 refine GW_seq ?_
 refine GW_region ?_
 refine GL_box (wn_none rfl) rfl rfl rfl rfl hp ?_
 intro g w hp
 refine GL_box (wn_none rfl) rfl rfl rfl rfl hp ?_
 intro g2 w hp
 refine GL_rd (v := .slice _ _ _) (wn_none rfl) rfl (rd_assign rfl rfl) ?_
 refine GL_nil ?_
 refine GW_seq ?_
 refine GW_drawnK 7 (.one 2 true (.one 4 true (.one 0 false (.one 1 false (.one 3 false (.one 5 false (.one 6 true .nil))))))) mixed (by kernel_rfl) hp (fun _ h => h) fun w hp => ?_
 have hpS := hp
 refine GO_rd rfl rfl (wn_none rfl) rfl hpS (fun w hp => (rd_loadC rfl rfl Tryz.underlying30 rfl ts30 (hp.get 1 rfl) (by first | (rw [bys_length]; first | exact a32_len _) | rfl | simp [bys_length, *]))) ?_
 refine GO_rd rfl rfl (wn_none rfl) rfl hpS (fun w hp => (rd_loadC rfl rfl Tryz.underlying30 rfl ts30 (hp.get 0 rfl) (by first | (rw [bys_length]; first | exact a32_len _) | rfl | simp [bys_length, *]))) ?_
 refine GO_of_GL rfl ?_
 refine GL_lit (L := (bys nodeW)) (wn_none rfl) rfl rfl Tryz.underlying35 ts5 tz5 rfl (by kernel_rfl) rfl rfl hp ?_
 intro g3 w hp
 have hpS2 := (hp.sub (.cons _ (.cons_cons _ (.cons_cons _ .slnil))))
 refine GL_nil ⟨fun _ => hpS2, ?_⟩
 refine GO_of_GL rfl ?_
 refine GL_convB (i := 0) (wn_none rfl) rfl rfl rfl Tryz.underlying35 Tryz.underlying5 hp rfl ?_
 intro w hp
 have hpS3 := (hp.sub (.cons _ (.cons_cons _ (.cons_cons _ .slnil))))
 refine GL_nil ⟨fun _ => hpS3, ?_⟩
 refine GO_of_GL rfl ?_
 refine GL_call (wn_none rfl) rfl rfl (ref_behind _ _ (nodeW) (a) _ (.inr ⟨g3, by decide, rfl, rfl⟩) (Hp.oneR (hp.get 0 rfl)) (by decide)) rfl ?_
 intro va w hk
 have hp := hp.turnAtMore 0 rfl hk
 have hpS4 := (hp.sub (.cons _ (.cons_cons _ (.cons_cons _ .slnil))))
 refine GL_nil ⟨fun _ => hpS4, ?_⟩
 refine GO_of_GL rfl ?_
 refine GL_call (wn_none rfl) rfl rfl (ref_behind _ _ (nodeW ++ a.1) (b) _ (.inl rfl) (Hp.oneR (hp.get 0 rfl)) (by rw [List.length_append, a.2]; decide)) rfl ?_
 intro vb w hk
 have hp := hp.turnAtMore 0 rfl hk
 have hpS5 := (hp.sub (.cons _ (.cons_cons _ (.cons_cons _ .slnil))))
 refine GL_nil ⟨fun _ => hpS5, ?_⟩
 refine GO_rdT (v := vb) rfl (wn_none rfl) rfl (fun w => (rd_assign rfl rfl)) ?_
 refine GO_nil ?_
 refine GW_ret ?_
 have hp := ((hp.front 0 rfl).take 1)
 have hp := hp.cast (show _ = [.row 5 1 vb _ (bys (nodeW ++ (a.1 ++ b.1)))] by simp only [List.append_assoc]; rfl)
 have en := row_n (hp.get 0 rfl)
 rw [en] at hp
 exact ⟨_, res1 Tryz.results88 (rv_tmp (v := vb) rfl rfl), hp⟩
theorem ref_RootT (n : Nat) (a : A32) (w0 : World) (hn : n ≤ 4294967295) : Does Tryz.prog 53 #[.int .i64 (n : Int), .agg ⟨bys a.1⟩] w0 fun v w' => Hp w0 [] w' [.row 5 1 v (rootW ++ (putL n 4 ++ a.1)).length (bys (rootW ++ (putL n 4 ++ a.1)))] := by
 refine does_of (l := [.int .i64 (n : Int), .agg ⟨bys a.1⟩]) Tryz.func53 (by kernel_rfl) rfl Tryz.ntmps53 rfl rfl (by kernel_rfl) ?_
 have hp := Hp.refl w0 []
 refine GW_seq ?_
 refine GW_region ?_
 refine GL_box (wn_none rfl) rfl rfl rfl rfl hp ?_
 intro g w hp
 refine GL_rd (v := .slice _ _ _) (wn_none rfl) rfl (rd_assign rfl rfl) ?_
 refine GL_nil ?_
 refine GW_seq ?_
 refine GW_region ?_
 refine GL_lit (L := (bys rootW)) (wn_none rfl) rfl rfl Tryz.underlying35 ts5 tz5 rfl (by kernel_rfl) rfl rfl hp ?_
 intro g2 w hp
 refine GL_convB (i := 0) (wn_none rfl) rfl rfl rfl Tryz.underlying35 Tryz.underlying5 hp rfl ?_
 intro w hp
 refine GL_rd (v := .slice _ _ _) (wn_none rfl) rfl (rd_assign rfl rfl) ?_
 refine GL_nil ?_
 refine GW_seq ?_
 refine GW_region ?_
 refine GL_rd (v := .slice _ _ _) (wn_none rfl) rfl (rd_move rfl rfl) ?_
 refine GL_rd (v := .int _ _) (wn_none rfl) rfl (rd_move rfl rfl) ?_
 refine GL_rd (wn_none rfl) rfl (rd_convE (q := (n : Int)) rfl rfl Tryz.underlying62 Tryz.underlying3 (by simp) (IntWalk.u64_in _ (by omega))) ?_
 refine GL_call (wn_none rfl) rfl rfl (ref_Put 4 n 4 _ (by omega) (by decide) rfl) rfl ?_
 intro q w hk
 have hp := hp.comp hk
 refine GL_appendFull (wn_none rfl) rfl rfl rfl rfl Tryz.underlying35 ti5 rfl (by decide) hp (Sl.blk (hp.get 1 rfl) 1 _ rfl (by simp [maxLen])) (Sl.row (hp.get 0 rfl)) (by omega) (by decide) (by omega) (by omega) (by omega) ?_
 intro v w hp
 rw [← bys_append] at hp
 refine GL_rd (v := v) (wn_none rfl) rfl (rd_assign rfl rfl) ?_
 refine GL_nil ?_
 refine GW_seq ?_
 refine GW_region ?_
 refine GL_rd (v := v) (wn_none rfl) rfl (rd_move rfl rfl) ?_
 refine GL_rd (wn_none rfl) rfl (rd_loadC rfl rfl Tryz.underlying30 rfl ts30 (hp.get 3 rfl) (by first | (rw [bys_length]; first | exact a32_len _) | rfl | simp [bys_length, *])) ?_
 refine GL_call (wn_none rfl) rfl rfl (ref_behind _ _ (rootW ++ putL n 4) (a) _ (.inl rfl) (Hp.oneR (hp.get 0 rfl)) (by rw [List.length_append, putL_length]; decide)) rfl ?_
 intro va w hk
 have hp := hp.turnAtMore 0 rfl hk
 refine GL_rd (v := va) (wn_none rfl) rfl (rd_assign rfl rfl) ?_
 refine GL_nil ?_
 refine GW_ret ?_
 have hp := ((hp.front 0 rfl).take 1)
 have hp := hp.cast (show _ = [.row 5 1 va _ (bys (rootW ++ (putL n 4 ++ a.1)))] by simp only [List.append_assoc]; rfl)
 have en := row_n (hp.get 0 rfl)
 rw [en] at hp
 exact ⟨_, res1 Tryz.results53 (rv_tmp (v := va) rfl rfl), hp⟩
theorem ref_width (n : Nat) (w0 : World) (h2 : 2 ≤ n) (hb : n ≤ 1048576) : Does Tryz.prog 87 #[.int .i64 (n : Int)] w0 fun v w' => ∃ j, v = .int .i64 ((2 ^ j : Nat) : Int) ∧ 2 ^ j < n ∧ n ≤ 2 * 2 ^ j ∧ Hp w0 [] w' [] := by
 refine does_of (l := [.int .i64 (n : Int)]) Tryz.func87 (by kernel_rfl) rfl Tryz.ntmps87 rfl rfl (by kernel_rfl) ?_
 have hp := Hp.refl w0 []
 refine GW_seq ?_
 refine GW_region ?_
 refine GL_rd (v := .int _ _) (wn_none rfl) rfl (rd_assign rfl rfl) ?_
 refine GL_nil ?_
 refine GW_seq ?_
 refine GW_region ?_
 refine GL_rd (v := .int _ _) (wn_none rfl) rfl (rd_assign rfl rfl) ?_
 refine GL_nil ?_
 refine GW_seq ?_
 refine GW_block ?_
 refine GW_loop ?_
 refine Lp_ind (α := Nat × Nat) (fun a_0 f_0 w' => match a_0 with | (k, j) => ∃ fz, f_0 = (upd (upd fz 3 (.int .i64 (k : Int))) 0 (.int .i64 (n : Int))) ∧ Hp w0 [] w' [] ∧ (k = 2 ^ j) ∧ (k < n) ∧ (1 ≤ k)) (fun a_0 => match a_0 with | (k, j) => n - k) ?_ (1, 0) _ _ ?_
 ·rintro ⟨k, j⟩ f wz ⟨fz, rfl, hp, hkj, hlt, hk1⟩ ihL0
  refine Lp_round ?_
  refine GW_seq ?_
  refine GW_seq ?_
  refine GW_region ?_
  refine GL_rd (v := .int _ _) (wn_none rfl) rfl (rd_move rfl rfl) ?_
  refine GL_rd (wn_none rfl) rfl (rd_bin rfl rfl rfl (bo_mul64 (by omega))) ?_
  refine GL_rd (v := .int _ _) (wn_none rfl) rfl (rd_move rfl rfl) ?_
  refine GL_rd (wn_none rfl) rfl (rd_bin rfl rfl rfl bo_lss) ?_
  refine GL_nil ?_
  refine GW_cond rfl (fun hb => ?_) (fun hb => ?_)
  ·(try simp only [decide_eq_true_eq, decide_eq_false_iff_not, Bool.not_eq_true', Bool.not_eq_false', Bool.not_eq_eq_eq_not, Bool.not_true, Bool.not_false, Int.not_lt, Int.not_le] at hb)
   refine GW_skip ?_
   refine GW_block ?_
   refine GW_region ?_
   refine GL_rd (v := .int _ _) (wn_none rfl) rfl (rd_move rfl rfl) ?_
   refine GL_rd (wn_none rfl) rfl (rd_bin rfl rfl rfl (bo_mul64 (by omega))) ?_
   refine GL_rd (v := .int _ _) (wn_none rfl) rfl (rd_assign rfl rfl) ?_
   refine GL_nil ?_
   have hp := hp.take 0
   exact ihL0 (2 * k, j + 1) _ _ (by simp only []; omega) ⟨_, slots2 rfl rfl, hp, by rw [Nat.pow_succ]; omega, by omega, by omega⟩
  ·(try simp only [decide_eq_true_eq, decide_eq_false_iff_not, Bool.not_eq_true', Bool.not_eq_false', Bool.not_eq_eq_eq_not, Bool.not_true, Bool.not_false, Int.not_lt, Int.not_le] at hb)
   refine GW_exit ?_
   refine GW_seq ?_
   refine GW_region ?_
   refine GL_rd (v := .int _ _) (wn_none rfl) rfl (rd_move rfl rfl) ?_
   refine GL_rd (v := .int _ _) (wn_none rfl) rfl (rd_assign rfl rfl) ?_
   refine GL_nil ?_
   refine GW_ret ?_
   subst hkj
   exact ⟨_, res1 Tryz.results87 (rv_tmp (v := .int _ _) rfl rfl), j, rfl, hlt, by omega, hp.mods⟩
 ·refine ⟨_, slots2 rfl rfl, hp, rfl, by omega, Nat.le_refl 1⟩
set_option maxHeartbeats 1000000 in
theorem ref_top : ∀ (n : Nat) (sv : Value) (L : List (Value × List UInt8)) (f : Nat) (wb w0 : World) (hm0 : Mod [] wb w0) (hs : Sl wb sv 1 L.length (L.map Prod.fst)) (hx : ∀ x ∈ L, Sl wb x.1 1 x.2.length (bys x.2)) (hn : L.length = n) (h1 : 1 ≤ L.length) (hf : f + L.length ≤ 1048576) (hxl : ∀ x ∈ L, x.2.length ≤ 65536), Does Tryz.prog 54 #[sv, .int .i64 (f : Int)] w0 fun v w' => v = .agg ⟨bys (topL (lvL f (L.map Prod.snd))).1⟩ ∧ Hp w0 [] w' [] := by
 intro n
 induction n using Nat.strongRecOn with
 | _ n ih =>
  intro sv L f wb w0 hm0 hs hx hn h1 hf hxl
  obtain ⟨A, c, rfl⟩ := sl_shape hs
  refine does_of (l := [.slice A L.length c, .int .i64 (f : Int)]) Tryz.func54 (by kernel_rfl) rfl Tryz.ntmps54 rfl rfl (by kernel_rfl) ?_
  have hp := Hp.refl w0 []
  refine GW_seq ?_
  refine GW_region ?_
  refine GL_alloc (wn_none rfl) rfl rfl tz30 rfl hp ?_
  intro g w hp
  refine GL_nil ?_
  refine GW_seq ?_
  refine GW_seq ?_
  refine GW_region ?_
  refine GL_rd (v := .slice _ _ _) (wn_none rfl) rfl (rd_move rfl rfl) ?_
  refine GL_rd (wn_none rfl) rfl (rd_len rfl rfl Tryz.underlying22) ?_
  refine GL_rd (wn_none rfl) rfl (rd_bin rfl rfl rfl bo_eql) ?_
  refine GL_nil ?_
  refine GW_cond rfl (fun hb => ?_) (fun hb => ?_)
  ·(try simp only [decide_eq_true_eq, decide_eq_false_iff_not, Bool.not_eq_true', Bool.not_eq_false', Bool.not_eq_eq_eq_not, Bool.not_true, Bool.not_false, Int.not_lt, Int.not_le] at hb)
   have hl1 : L.length = 1 := by omega
   obtain ⟨g0, b0, rfl⟩ := hs.addr (by rw [List.length_map]; omega)
   have hxm := getD_inL (l := L) (i := 0) (by omega)
   obtain ⟨Ax, cx, hsh⟩ := sl_shape (hx _ hxm)
   have hx0 := hxl _ hxm
   have hlv : (topL (lvL f (L.map Prod.snd))) = lvS f (L.getD 0 default).2 := by rw [top_single (by rw [List.length_map]; exact hl1)]; congr 1; have h := getD_snd (L := L) (i := 0) (by omega); rw [List.getD_eq_getElem?_getD, h]; rfl
   refine GW_seq ?_
   refine GW_region ?_
   refine GL_rd (v := .int _ _) (wn_none rfl) rfl (rd_move rfl rfl) ?_
   refine GL_rd (v := .slice _ _ _) (wn_none rfl) rfl (rd_move rfl rfl) ?_
   refine GL_rd (wn_none rfl) rfl (rd_indexS (j := 0) rfl rfl rfl Tryz.underlying22 ts35 rfl (by omega) _ rfl) ?_
   refine GL_rd (v := .slice _ _ _) (wn_none rfl) rfl (rd_load rfl rfl Tryz.underlying35 rfl (((hs.keep (hm0.trans hp.mod (by simp)))).get _ _ (by rw [Nat.mul_one]; exact (fstL_at (L := L) (i := 0) (by omega)).trans (congrArg some hsh)))) ?_
   refine GL_call (wn_none rfl) rfl rfl (ref_Leaf f _ (L.getD 0 default).2 _ (by have h := (hx _ hxm).keep (hm0.trans hp.mod (by simp)); rw [hsh] at h; exact h) (by omega) (by omega)) rfl ?_
   intro vs w hk
   have hp := hp.comp hk
   refine GL_call (wn_none rfl) rfl rfl (ref_Sum _ _ (leafW ++ (putL f 4 ++ (L.getD 0 default).2)) _ (Sl.row (hp.get 0 rfl)) (by simp only [List.length_append, putL_length, leafW, List.length_cons, List.length_nil]; omega)) rfl ?_
   rintro _ w ⟨rfl, hk⟩
   have hp := hp.comp hk
   refine GL_store (i := 1) (wn_none rfl) rfl rfl rfl rfl ts30 rfl (by rw [bys_length]; exact (lvS f (L.getD 0 default).2).2) (bys_one _) hp rfl (Nat.le_of_ble_eq_true rfl) (splice_all _ _ (by rw [bys_length]; exact (lvS f (L.getD 0 default).2).2.trans rfl)) ?_
   intro w hp
   refine GL_nil ?_
   refine GW_ret ?_
   exact ⟨_, res1 Tryz.results54 (rv_cell rfl rfl Tryz.underlying30 rfl ts30 (by rw [bys_length]; exact sumB_length _) (hp.get 1 rfl)), by rw [hlv]; rfl, hp.mods⟩
  ·(try simp only [decide_eq_true_eq, decide_eq_false_iff_not, Bool.not_eq_true', Bool.not_eq_false', Bool.not_eq_eq_eq_not, Bool.not_true, Bool.not_false, Int.not_lt, Int.not_le] at hb)
   have hl2 : 2 ≤ L.length := by omega
   refine GW_skip ?_
   refine GW_seq ?_
   refine GW_region ?_
   refine GL_rd (v := .slice _ _ _) (wn_none rfl) rfl (rd_move rfl rfl) ?_
   refine GL_rd (wn_none rfl) rfl (rd_len rfl rfl Tryz.underlying22) ?_
   refine GL_call (wn_none rfl) rfl rfl (ref_width L.length _ hl2 (by omega)) rfl ?_
   rintro _ w ⟨j, rfl, hj1, hj2, hk⟩
   have hp := hp.comp hk
   obtain ⟨A2, c2, hA2, hc2, hs2⟩ := hs.subP 0 (2 ^ j) (Nat.zero_le _) (by omega)
   obtain ⟨A3, c3, hA3, hc3, hs3⟩ := hs.subP (2 ^ j) L.length (by omega) (Nat.le_refl _)
   have hd1 : ((L.drop 0).take (2 ^ j - 0)).length = 2 ^ j - 0 := by rw [List.length_take, List.length_drop]; omega
   have hd2 : ((L.drop (2 ^ j)).take (L.length - 2 ^ j)).length = L.length - 2 ^ j := by rw [List.length_take, List.length_drop]; omega
   refine GL_rd (v := .int _ _) (wn_none rfl) rfl (rd_assign rfl rfl) ?_
   refine GL_nil ?_
   refine GW_seq ?_
   refine GW_drawnK 14 (.one 0 true (.one 1 true (.one 2 true (.one 3 true (.one 5 true (.one 6 true (.one 7 true (.one 8 true (.one 9 true (.one 10 true (.one 4 false (.one 11 false (.one 12 false (.one 13 false (.one 14 false .nil))))))))))))))) mixed (by kernel_rfl) hp (fun _ h => h) fun w hp => ?_
   have hpS := hp
   refine GO_rdT (v := .slice _ _ _) rfl (wn_none rfl) rfl (fun w => (rd_move rfl rfl)) ?_
   refine GO_rdT (v := .int _ _) rfl (wn_none rfl) rfl (fun w => (rd_move rfl rfl)) ?_
   refine GO_rd rfl rfl (wn_none rfl) rfl hpS (fun w hp => (rd_sliceE (lo := 0) (hi := (2 ^ j)) rfl rfl Tryz.underlying22 ts35 at_none (at_some rfl rfl) (Nat.zero_le _) (by have := (Sl.cap hs).1; omega) hA2 rfl hc2)) ?_
   refine GO_rdT (v := .int _ _) rfl (wn_none rfl) rfl (fun w => (rd_move rfl rfl)) ?_
   refine GO_rdT (v := .slice _ _ _) rfl (wn_none rfl) rfl (fun w => (rd_move rfl rfl)) ?_
   refine GO_rdT (v := .int _ _) rfl (wn_none rfl) rfl (fun w => (rd_move rfl rfl)) ?_
   refine GO_rd rfl rfl (wn_none rfl) rfl hpS (fun w hp => (rd_sliceE (lo := (2 ^ j)) (hi := L.length) rfl rfl Tryz.underlying22 ts35 (at_some rfl rfl) to_none (by omega) (by have := (Sl.cap hs).1; omega) hA3 rfl hc3)) ?_
   refine GO_rdT (v := .int _ _) rfl (wn_none rfl) rfl (fun w => (rd_move rfl rfl)) ?_
   refine GO_rdT (v := .int _ _) rfl (wn_none rfl) rfl (fun w => (rd_move rfl rfl)) ?_
   refine GO_rd rfl rfl (wn_none rfl) rfl hpS (fun w hp => (rd_bin rfl rfl rfl (bo_add64 (by omega)))) ?_
   refine GO_of_GL rfl ?_
   refine GL_call (wn_none rfl) rfl rfl (ih ((L.drop 0).take (2 ^ j - 0)).length (by rw [hd1]; omega) _ ((L.drop 0).take (2 ^ j - 0)) f wb _ (hm0.trans hp.mod (by simp)) (by rw [hd1]; exact hs2) (fun x h => hx x (mem_drop_take h)) rfl (by rw [hd1]; omega) (by rw [hd1]; omega) (fun x h => hxl x (mem_drop_take h))) rfl ?_
   rintro _ w ⟨rfl, hk⟩
   have hp := hp.comp hk
   have hpS2 := hp
   refine GL_nil ⟨fun _ => hpS2, ?_⟩
   refine GO_of_GL rfl ?_
   refine GL_call (wn_none rfl) rfl rfl (ih ((L.drop (2 ^ j)).take (L.length - 2 ^ j)).length (by rw [hd2]; omega) _ ((L.drop (2 ^ j)).take (L.length - 2 ^ j)) (f + 2 ^ j) wb _ (hm0.trans hp.mod (by simp)) (by rw [hd2]; exact hs3) (fun x h => hx x (mem_drop_take h)) rfl (by rw [hd2]; omega) (by rw [hd2]; omega) (fun x h => hxl x (mem_drop_take h))) rfl ?_
   rintro _ w ⟨rfl, hk⟩
   have hp := hp.comp hk
   have hpS3 := hp
   refine GL_nil ⟨fun _ => hpS3, ?_⟩
   refine GO_of_GL rfl ?_
   refine GL_call (wn_none rfl) rfl rfl (ref_Node (topL (lvL f (((L.drop 0).take (2 ^ j - 0)).map Prod.snd))) (topL (lvL (f + 2 ^ j) (((L.drop (2 ^ j)).take (L.length - 2 ^ j)).map Prod.snd))) _) rfl ?_
   intro vs w hk
   have hp := hp.comp hk
   have hpS4 := (hp.sub (.cons _ (.cons_cons _ .slnil)))
   refine GL_nil ⟨fun _ => hpS4, ?_⟩
   refine GO_of_GL rfl ?_
   refine GL_call (wn_none rfl) rfl rfl (ref_Sum _ _ (nodeW ++ ((topL (lvL f (((L.drop 0).take (2 ^ j - 0)).map Prod.snd))).1 ++ (topL (lvL (f + 2 ^ j) (((L.drop (2 ^ j)).take (L.length - 2 ^ j)).map Prod.snd))).1)) _ (Sl.row (hp.get 0 rfl)) (by rw [List.length_append, List.length_append, ((topL (lvL f (((L.drop 0).take (2 ^ j - 0)).map Prod.snd)))).2, ((topL (lvL (f + 2 ^ j) (((L.drop (2 ^ j)).take (L.length - 2 ^ j)).map Prod.snd)))).2]; decide)) rfl ?_
   rintro _ w ⟨rfl, hk⟩
   have hp := hp.comp hk
   have hpS5 := (hp.sub (.cons _ (.cons_cons _ .slnil)))
   refine GL_nil ⟨fun _ => hpS5, ?_⟩
   refine GO_of_GL rfl ?_
   refine GL_store (i := 1) (wn_none rfl) rfl rfl rfl rfl ts30 rfl (by rw [bys_length]; exact (ndS (topL (lvL f (((L.drop 0).take (2 ^ j - 0)).map Prod.snd))) (topL (lvL (f + 2 ^ j) (((L.drop (2 ^ j)).take (L.length - 2 ^ j)).map Prod.snd)))).2) (bys_one _) hp rfl (Nat.le_of_ble_eq_true rfl) (splice_all _ _ (by rw [bys_length]; exact (ndS (topL (lvL f (((L.drop 0).take (2 ^ j - 0)).map Prod.snd))) (topL (lvL (f + 2 ^ j) (((L.drop (2 ^ j)).take (L.length - 2 ^ j)).map Prod.snd)))).2.trans rfl)) ?_
   intro w hp
   refine GL_nil ⟨fun h => absurd h (by decide), ?_⟩
   refine GO_nil ?_
   refine GW_ret ?_
   have hlv : (topL (lvL f (L.map Prod.snd))) = ndS (topL (lvL f (((L.drop 0).take (2 ^ j - 0)).map Prod.snd))) (topL (lvL (f + 2 ^ j) (((L.drop (2 ^ j)).take (L.length - 2 ^ j)).map Prod.snd))) := by rw [top_cut (f := f) (j := j) (by rw [List.length_map]; exact hj1) (by rw [List.length_map]; exact hj2), ← List.map_take, ← List.map_drop, List.drop_zero, Nat.sub_zero, List.take_of_length_le (l := L.drop (2 ^ j)) (by rw [List.length_drop]; omega)]
   exact ⟨_, res1 Tryz.results54 (rv_cell rfl rfl Tryz.underlying30 rfl ts30 (by rw [bys_length]; exact sumB_length _) (hp.get 1 rfl)), by rw [hlv]; rfl, hp.mods⟩
theorem ref_trCheck (sv : Value) (L : List (Value × List UInt8)) (w0 : World) (hs : Sl w0 sv 1 L.length (L.map Prod.fst)) : Does Tryz.prog 51 #[sv] w0 fun v w' => v = .int .i64 (trK L.length) ∧ Hp w0 [] w' [] := by
 obtain ⟨A, c, rfl⟩ := sl_shape hs
 refine does_of (l := [.slice A L.length c]) Tryz.func51 (by kernel_rfl) rfl Tryz.ntmps51 rfl rfl (by kernel_rfl) ?_
 have hp := Hp.refl w0 []
 refine GW_seq ?_
 refine GW_region ?_
 refine GL_rd (v := .int _ _) (wn_none rfl) rfl (rd_assign rfl rfl) ?_
 refine GL_nil ?_
 refine GW_seq ?_
 refine GW_seq ?_
 refine GW_region ?_
 refine GL_rd (v := .slice _ _ _) (wn_none rfl) rfl (rd_move rfl rfl) ?_
 refine GL_rd (wn_none rfl) rfl (rd_len rfl rfl Tryz.underlying22) ?_
 refine GL_rd (wn_none rfl) rfl (rd_bin rfl rfl rfl bo_eql) ?_
 refine GL_nil ?_
 refine GW_cond rfl (fun hb => ?_) (fun hb => ?_)
 ·(try simp only [decide_eq_true_eq, decide_eq_false_iff_not, Bool.not_eq_true', Bool.not_eq_false', Bool.not_eq_eq_eq_not, Bool.not_true, Bool.not_false, Int.not_lt, Int.not_le] at hb)
  refine GW_seq ?_
  refine GW_region ?_
  refine GL_rd (v := .int _ _) (wn_none rfl) rfl (rd_assign rfl rfl) ?_
  refine GL_nil ?_
  refine GW_ret ?_
  have e : trK L.length = 1 := trK_none (by omega)
  exact ⟨_, res1 Tryz.results51 (rv_tmp (v := .int _ _) rfl rfl), by rw [e], hp.mods⟩
 ·(try simp only [decide_eq_true_eq, decide_eq_false_iff_not, Bool.not_eq_true', Bool.not_eq_false', Bool.not_eq_eq_eq_not, Bool.not_true, Bool.not_false, Int.not_lt, Int.not_le] at hb)
  refine GW_skip ?_
  refine GW_seq ?_
  refine GW_seq ?_
  refine GW_region ?_
  refine GL_rd (v := .slice _ _ _) (wn_none rfl) rfl (rd_move rfl rfl) ?_
  refine GL_rd (wn_none rfl) rfl (rd_len rfl rfl Tryz.underlying22) ?_
  refine GL_rd (wn_none rfl) rfl (rd_bin rfl rfl rfl bo_gtr) ?_
  refine GL_nil ?_
  refine GW_cond rfl (fun hb2 => ?_) (fun hb2 => ?_)
  ·(try simp only [decide_eq_true_eq, decide_eq_false_iff_not, Bool.not_eq_true', Bool.not_eq_false', Bool.not_eq_eq_eq_not, Bool.not_true, Bool.not_false, Int.not_lt, Int.not_le] at hb2)
   refine GW_seq ?_
   refine GW_region ?_
   refine GL_rd (v := .int _ _) (wn_none rfl) rfl (rd_assign rfl rfl) ?_
   refine GL_nil ?_
   refine GW_ret ?_
   have e : trK L.length = 7 := trK_many (by omega)
   exact ⟨_, res1 Tryz.results51 (rv_tmp (v := .int _ _) rfl rfl), by rw [e], hp.mods⟩
  ·(try simp only [decide_eq_true_eq, decide_eq_false_iff_not, Bool.not_eq_true', Bool.not_eq_false', Bool.not_eq_eq_eq_not, Bool.not_true, Bool.not_false, Int.not_lt, Int.not_le] at hb2)
   refine GW_skip ?_
   refine GW_seq ?_
   refine GW_region ?_
   refine GL_rd (v := .int _ _) (wn_none rfl) rfl (rd_assign rfl rfl) ?_
   refine GL_nil ?_
   refine GW_ret ?_
   have e : trK L.length = 0 := trK_ok (by omega) (by omega)
   exact ⟨_, res1 Tryz.results51 (rv_tmp (v := .int _ _) rfl rfl), by rw [e], hp.mods⟩
theorem ref_Root (sv : Value) (L : List (Value × List UInt8)) (w0 : World) (hs : Sl w0 sv 1 L.length (L.map Prod.fst)) (hx : ∀ x ∈ L, Sl w0 x.1 1 x.2.length (bys x.2)) (hxl : ∀ x ∈ L, x.2.length ≤ 65536) : Does Tryz.prog 25 #[sv] w0 fun v w' => v = .tuple #[.agg ⟨bys (rootV (L.map Prod.snd)).1⟩, .int .i64 (trK L.length)] ∧ Hp w0 [] w' [] := by
 obtain ⟨A, c, rfl⟩ := sl_shape hs
 refine does_of (l := [.slice A L.length c]) Tryz.func25 (by kernel_rfl) rfl Tryz.ntmps25 rfl rfl (by kernel_rfl) ?_
 have hp := Hp.refl w0 []
 refine GW_seq ?_
 refine GW_region ?_
 refine GL_alloc (wn_none rfl) rfl rfl tz30 rfl hp ?_
 intro g w hp
 refine GL_rd (v := .int _ _) (wn_none rfl) rfl (rd_assign rfl rfl) ?_
 refine GL_nil ?_
 refine GW_seq ?_
 refine GW_seq ?_
 refine GW_region ?_
 refine GL_rd (v := .slice _ _ _) (wn_none rfl) rfl (rd_move rfl rfl) ?_
 refine GL_call (wn_none rfl) rfl rfl (ref_trCheck _ L _ (hs.keep hp.mod)) rfl ?_
 rintro _ w ⟨rfl, hk⟩
 have hp := hp.comp hk
 refine GL_rd (v := .int .i64 (trK L.length)) (wn_none rfl) rfl (rd_assign rfl rfl) ?_
 refine GL_nil ?_
 refine GW_seq ?_
 refine GW_region ?_
 refine GL_rd (v := .int .i64 (trK L.length)) (wn_none rfl) rfl (rd_move rfl rfl) ?_
 refine GL_rd (wn_none rfl) rfl (rd_bin rfl rfl rfl bo_neq) ?_
 refine GL_nil ?_
 refine GW_cond rfl (fun hb => ?_) (fun hb => ?_)
 ·(try simp only [decide_eq_true_eq, decide_eq_false_iff_not, Bool.not_eq_true', Bool.not_eq_false', Bool.not_eq_eq_eq_not, Bool.not_true, Bool.not_false, Int.not_lt, Int.not_le] at hb)
  have ht : ¬ trK L.length = 0 := hb
  have hrv : rootV (L.map Prod.snd) = a32Z := by rw [rootV, List.length_map, if_neg ht]
  refine GW_seq ?_
  refine GW_region ?_
  refine GL_rd (wn_none rfl) rfl (rd_buildA (L := (bys a32Z.1)) rfl tz30 Tryz.underlying30 ts5 (by kernel_rfl)) ?_
  refine GL_rd (v := .int .i64 (trK L.length)) (wn_none rfl) rfl (rd_move rfl rfl) ?_
  refine GL_store (i := 0) (wn_none rfl) rfl rfl rfl rfl ts30 rfl (by rw [bys_length]; exact a32Z.2) (bys_one _) hp rfl (Nat.le_of_ble_eq_true rfl) (splice_all _ _ (by rw [bys_length]; exact a32Z.2.trans rfl)) ?_
  intro w hp
  refine GL_rd (v := .int .i64 (trK L.length)) (wn_none rfl) rfl (rd_assign rfl rfl) ?_
  refine GL_nil ?_
  refine GW_ret ?_
  exact ⟨_, res2 Tryz.results25 (rv_cell rfl rfl Tryz.underlying30 rfl ts30 (by first | (rw [bys_length]; exact sumB_length _) | (rw [bys_length]; exact a32Z.2)) (hp.get 0 rfl)) (rv_tmp (v := .int .i64 (trK L.length)) rfl rfl), by rw [hrv], hp.mods⟩
 ·(try simp only [decide_eq_true_eq, decide_eq_false_iff_not, Bool.not_eq_true', Bool.not_eq_false', Bool.not_eq_eq_eq_not, Bool.not_true, Bool.not_false, Int.not_lt, Int.not_le] at hb)
  have ht : trK L.length = 0 := hb
  have htl := trK_iff.1 ht
  have hrv : rootV (L.map Prod.snd) = rtS L.length (topL (lvL 0 (L.map Prod.snd))) := by rw [rootV, List.length_map, if_pos ht, rootL, List.length_map]
  refine GW_skip ?_
  refine GW_seq ?_
  refine GW_region ?_
  refine GL_rd (v := .slice _ _ _) (wn_none rfl) rfl (rd_move rfl rfl) ?_
  refine GL_rd (wn_none rfl) rfl (rd_len rfl rfl Tryz.underlying22) ?_
  refine GL_rd (v := .slice _ _ _) (wn_none rfl) rfl (rd_move rfl rfl) ?_
  refine GL_call (wn_none rfl) rfl rfl (ref_top L.length _ L 0 w0 _ hp.mod hs hx rfl htl.1 (by omega) hxl) rfl ?_
  rintro _ w ⟨rfl, hk⟩
  have hp := hp.comp hk
  refine GL_call (wn_none rfl) rfl rfl (ref_RootT L.length (topL (lvL 0 (L.map Prod.snd))) _ (by omega)) rfl ?_
  intro vs w hk
  have hp := hp.comp hk
  refine GL_call (wn_none rfl) rfl rfl (ref_Sum _ _ (rootW ++ (putL L.length 4 ++ (topL (lvL 0 (L.map Prod.snd))).1)) _ (Sl.row (hp.get 0 rfl)) (by simp only [List.length_append, putL_length, rootW, List.length_cons, List.length_nil, (topL (lvL 0 (L.map Prod.snd))).2]; decide)) rfl ?_
  rintro _ w ⟨rfl, hk⟩
  have hp := hp.comp hk
  refine GL_store (i := 1) (wn_none rfl) rfl rfl rfl rfl ts30 rfl (by rw [bys_length]; exact (rtS L.length (topL (lvL 0 (L.map Prod.snd)))).2) (bys_one _) hp rfl (Nat.le_of_ble_eq_true rfl) (splice_all _ _ (by rw [bys_length]; exact (rtS L.length (topL (lvL 0 (L.map Prod.snd)))).2.trans rfl)) ?_
  intro w hp
  refine GL_rd (v := .int _ _) (wn_none rfl) rfl (rd_assign rfl rfl) ?_
  refine GL_nil ?_
  refine GW_ret ?_
  exact ⟨_, res2 Tryz.results25 (rv_cell rfl rfl Tryz.underlying30 rfl ts30 (by first | (rw [bys_length]; exact sumB_length _) | (rw [bys_length]; exact a32Z.2)) (hp.get 1 rfl)) (rv_tmp (v := .int _ _) rfl rfl), by rw [hrv, ht]; rfl, hp.mods⟩
end Go.Proofs.YtpagpmioopaciaaGreat
