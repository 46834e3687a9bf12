/- Walks of functions of the program. -/
import Derived.Test.YtpagpmioopaciaaBActs
import Derived.Test.YtpagpmioopaciaaBTypes
import Derived.Test.YtpagpmioopaciaaBHeapS
import Derived.Test.YtpagpmioopaciaaBFWord
set_option linter.unusedVariables false
set_option linter.unusedSimpArgs false
namespace Go.Proofs.Ytpagpmioopaciaa
open Go.Mo Go.RowKit
theorem crc_turn (r : BitVec 32) (c : UInt8) (w0 : World) : Does Try.prog 156 #[.int .u32 ((r).toNat : Int), .int .u8 (c.toNat : Int)] w0 fun v w' => v = .int .u32 ((turnB r c).toNat : Int) ∧ Hp w0 [] w' [] := by
 refine does_of (l := [.int .u32 ((r).toNat : Int), .int .u8 (c.toNat : Int)]) Try.func156 (by kernel_rfl) rfl Try.ntmps156 rfl rfl (by kernel_rfl) ?_
 have hp := Hp.refl w0 []
 refine GW_seq ?_
 refine GW_region ?_
 refine GL_rd (v := .int _ _) (wn_none rfl) rfl (rd_assign rfl rfl) ?_
 refine GL_nil ?_
 refine GW_seq ?_
 refine GW_region ?_
 refine GL_rd (v := .int _ _) (wn_none rfl) rfl (rd_move rfl rfl) ?_
 refine GL_rd (v := .int _ _) (wn_none rfl) rfl (rd_move rfl rfl) ?_
 refine GL_rd (wn_none rfl) rfl (rd_conv8 .u32 rfl rfl Try.underlying37 Try.underlying5 (by simp)) ?_
 refine GL_rd (wn_none rfl) rfl (rd_bin rfl rfl rfl (bo_xor32 r c.toNat)) ?_
 refine GL_rd (v := .int _ _) (wn_none rfl) rfl (rd_assign rfl rfl) ?_
 refine GL_nil ?_
 refine GW_seq ?_
 refine GW_seq ?_
 refine GW_region ?_
 refine GL_rd (v := .int _ _) (wn_none rfl) rfl (rd_move rfl rfl) ?_
 refine GL_nil ?_
 refine GW_block ?_
 refine GW_loop ?_
 refine Lp_ind (α := Nat) (fun a_0 f_0 w' => match a_0 with | k => ∃ fz, f_0 = (upd (upd fz 0 (.int .u32 (((stepsB k (r ^^^ BitVec.ofNat 32 c.toNat))).toNat : Int))) 9 (.int .i64 (k : Int))) ∧ Hp w0 [] w' [] ∧ (k ≤ 8)) (fun a_0 => match a_0 with | k => 8 - k) ?_ 0 _ _ ?_
 ·rintro k f wz ⟨fz, rfl, hp, hk⟩ ihL0
  refine Lp_round ?_
  refine GW_seq ?_
  refine GW_region ?_
  refine GL_rd (wn_none rfl) rfl (rd_bin rfl rfl rfl bo_lss) ?_
  refine GL_nil ?_
  refine GW_seq ?_
  refine GW_cond rfl (fun hb => ?_) (fun hb => ?_)
  ·(try simp only [decide_eq_true_eq, decide_eq_false_iff_not, Bool.not_eq_true', Bool.not_eq_false', Bool.not_eq_eq_eq_not, Bool.not_true, Bool.not_false, Int.not_lt, Int.not_le] at hb)
   refine GW_skip ?_
   refine GW_seq ?_
   refine GW_block ?_
   refine GW_seq ?_
   refine GW_region ?_
   refine GL_rd (v := .int _ _) (wn_none rfl) rfl (rd_move rfl rfl) ?_
   refine GL_rd (wn_none rfl) rfl (rd_bin rfl rfl rfl (bo_and32 (stepsB k (r ^^^ BitVec.ofNat 32 c.toNat)) 1)) ?_
   refine GL_rd (wn_none rfl) rfl (rd_bin rfl rfl rfl bo_eql) ?_
   refine GL_nil ?_
   refine GW_cond rfl (fun hb2 => ?_) (fun hb2 => ?_)
   ·(try simp only [decide_eq_true_eq, decide_eq_false_iff_not, Bool.not_eq_true', Bool.not_eq_false', Bool.not_eq_eq_eq_not, Bool.not_true, Bool.not_false, Int.not_lt, Int.not_le] at hb2)
    have h1 : ((stepsB k (r ^^^ BitVec.ofNat 32 c.toNat)) &&& 1#32).toNat = 1 := by have h2 := hb2; omega
    have hst := congrArg (fun z : BitVec 32 => Value.int .u32 (z.toNat : Int)) (step_yes h1).symm
    refine GW_region ?_
    refine GL_rd (v := .int _ _) (wn_none rfl) rfl (rd_move rfl rfl) ?_
    refine GL_rd (wn_none rfl) rfl (rd_bin rfl rfl rfl (bo_shr32 (stepsB k (r ^^^ BitVec.ofNat 32 c.toNat)) 1 (by decide))) ?_
    refine GL_rd (wn_none rfl) rfl (rd_bin rfl rfl rfl (bo_xor32 ((stepsB k (r ^^^ BitVec.ofNat 32 c.toNat)) >>> 1) 3988292384)) ?_
    refine GL_rd (v := .int _ _) (wn_none rfl) rfl (rd_assign rfl rfl) ?_
    refine GL_nil ?_
    refine GW_region ?_
    refine GL_rd (wn_none rfl) rfl (rd_bin rfl rfl rfl (bo_add64 (by omega))) ?_
    refine GL_rd (v := .int _ _) (wn_none rfl) rfl (rd_move rfl rfl) ?_
    refine GL_nil ?_
    exact ihL0 (k + 1) _ _ (by simp only []; omega) ⟨_, slots2 hst rfl, hp, (by omega)⟩
   ·(try simp only [decide_eq_true_eq, decide_eq_false_iff_not, Bool.not_eq_true', Bool.not_eq_false', Bool.not_eq_eq_eq_not, Bool.not_true, Bool.not_false, Int.not_lt, Int.not_le] at hb2)
    have h1 : ¬ ((stepsB k (r ^^^ BitVec.ofNat 32 c.toNat)) &&& 1#32).toNat = 1 := by have h2 := hb2; omega
    have hst := congrArg (fun z : BitVec 32 => Value.int .u32 (z.toNat : Int)) (step_no h1).symm
    refine GW_region ?_
    refine GL_rd (v := .int _ _) (wn_none rfl) rfl (rd_move rfl rfl) ?_
    refine GL_rd (wn_none rfl) rfl (rd_bin rfl rfl rfl (bo_shr32 (stepsB k (r ^^^ BitVec.ofNat 32 c.toNat)) 1 (by decide))) ?_
    refine GL_rd (v := .int _ _) (wn_none rfl) rfl (rd_assign rfl rfl) ?_
    refine GL_nil ?_
    refine GW_region ?_
    refine GL_rd (wn_none rfl) rfl (rd_bin rfl rfl rfl (bo_add64 (by omega))) ?_
    refine GL_rd (v := .int _ _) (wn_none rfl) rfl (rd_move rfl rfl) ?_
    refine GL_nil ?_
    exact ihL0 (k + 1) _ _ (by simp only []; omega) ⟨_, slots2 hst rfl, hp, (by omega)⟩
  ·(try simp only [decide_eq_true_eq, decide_eq_false_iff_not, Bool.not_eq_true', Bool.not_eq_false', Bool.not_eq_eq_eq_not, Bool.not_true, Bool.not_false, Int.not_lt, Int.not_le] at hb)
   obtain rfl : k = 8 := by omega
   refine GW_exit ?_
   refine GW_seq ?_
   refine GW_region ?_
   refine GL_rd (v := .int _ _) (wn_none rfl) rfl (rd_move rfl rfl) ?_
   refine GL_rd (v := .int _ _) (wn_none rfl) rfl (rd_assign rfl rfl) ?_
   refine GL_nil ?_
   refine GW_ret ?_
   exact ⟨_, res1 Try.results156 (rv_tmp (v := .int _ _) rfl rfl), rfl, hp⟩
 ·refine ⟨_, slots2 rfl rfl, hp, Nat.zero_le _⟩
theorem crc_More (s : BitVec 32) (sv : Value) (m : Nat) (l : List UInt8) (w0 : World) (hs : Sl w0 sv 1 m (bys l)) : Does Try.prog 129 #[.int .u32 ((s).toNat : Int), sv] w0 fun v w' => v = .int .u32 ((moreB s l).toNat : Int) ∧ Hp w0 [] w' [] := by
 obtain ⟨A, c, rfl⟩ := sl_shape hs
 have hml := hs.blen
 have hmle := hs.le
 refine does_of (l := [.int .u32 ((s).toNat : Int), .slice A m c]) Try.func129 (by kernel_rfl) rfl Try.ntmps129 rfl rfl (by kernel_rfl) ?_
 have hp := Hp.refl w0 []
 refine GW_seq ?_
 refine GW_region ?_
 refine GL_rd (v := .int _ _) (wn_none rfl) rfl (rd_assign rfl rfl) ?_
 refine GL_nil ?_
 refine GW_seq ?_
 refine GW_region ?_
 refine GL_rd (v := .int _ _) (wn_none rfl) rfl (rd_move rfl rfl) ?_
 refine GL_rd (wn_none rfl) rfl (rd_compl32 s rfl rfl) ?_
 refine GL_rd (v := .int _ _) (wn_none rfl) rfl (rd_assign rfl rfl) ?_
 refine GL_nil ?_
 refine GW_seq ?_
 refine GW_seq ?_
 refine GW_region ?_
 refine GL_rd (v := .slice _ _ _) (wn_none rfl) rfl (rd_move rfl rfl) ?_
 refine GL_rd (wn_none rfl) rfl (rd_len rfl rfl Try.underlying33) ?_
 refine GL_rd (v := .int _ _) (wn_none rfl) rfl (rd_move rfl rfl) ?_
 refine GL_nil ?_
 refine GW_block ?_
 refine GW_loop ?_
 refine Lp_ind (α := Nat) (fun a_0 f_0 w' => match a_0 with | k => ∃ fz, f_0 = (upd (upd (upd (upd fz 5 (.int .u32 ((((l.take k).foldl turnB (~~~ s))).toNat : Int))) 10 (.slice A m c)) 11 (.int .i64 (m : Int))) 12 (.int .i64 (k : Int))) ∧ Hp w0 [] w' [] ∧ (k ≤ m)) (fun a_0 => match a_0 with | k => m - k) ?_ 0 _ _ ?_
 ·rintro k f wz ⟨fz, rfl, hp, hkm⟩ ihL0
  refine Lp_round ?_
  refine GW_seq ?_
  refine GW_region ?_
  refine GL_rd (wn_none rfl) rfl (rd_bin rfl rfl rfl bo_lss) ?_
  refine GL_nil ?_
  refine GW_seq ?_
  refine GW_cond rfl (fun hb => ?_) (fun hb => ?_)
  ·(try simp only [decide_eq_true_eq, decide_eq_false_iff_not, Bool.not_eq_true', Bool.not_eq_false', Bool.not_eq_eq_eq_not, Bool.not_true, Bool.not_false, Int.not_lt, Int.not_le] at hb)
   refine GW_skip ?_
   refine GW_seq ?_
   refine GW_block ?_
   refine GW_seq ?_
   refine GW_region ?_
   obtain ⟨gA, bA, rfl⟩ := hs.addr (by rw [bys_length]; omega)
   refine GL_rd (wn_none rfl) rfl (rd_indexS (j := k) rfl rfl rfl Try.underlying33 ts5 rfl (by omega) _ rfl) ?_
   refine GL_rd (wn_none rfl) rfl (rd_load rfl rfl Try.underlying5 rfl (Sl.byte (hs.keep hp.mod) k (by omega))) ?_
   refine GL_rd (v := .int _ _) (wn_none rfl) rfl (rd_assign rfl rfl) ?_
   refine GL_nil ?_
   refine GW_region ?_
   refine GL_rd (v := .int _ _) (wn_none rfl) rfl (rd_move rfl rfl) ?_
   refine GL_rd (v := .int _ _) (wn_none rfl) rfl (rd_move rfl rfl) ?_
   refine GL_call (wn_none rfl) rfl rfl (crc_turn ((l.take k).foldl turnB (~~~ s)) (l.getD k 0) _) rfl ?_
   rintro _ w ⟨rfl, hk⟩
   have hp := hp.comp hk
   refine GL_rd (v := .int _ _) (wn_none rfl) rfl (rd_assign rfl rfl) ?_
   refine GL_nil ?_
   refine GW_region ?_
   refine GL_rd (wn_none rfl) rfl (rd_bin rfl rfl rfl (bo_add64 (by omega))) ?_
   refine GL_rd (v := .int _ _) (wn_none rfl) rfl (rd_move rfl rfl) ?_
   refine GL_nil ?_
   have hst := congrArg (fun z : BitVec 32 => Value.int .u32 (z.toNat : Int)) (fold_take turnB (~~~ s) l k 0 (by omega)).symm
   exact ihL0 (k + 1) _ _ (by simp only []; omega) ⟨_, slots4 hst rfl rfl rfl, hp, (by omega)⟩
  ·(try simp only [decide_eq_true_eq, decide_eq_false_iff_not, Bool.not_eq_true', Bool.not_eq_false', Bool.not_eq_eq_eq_not, Bool.not_true, Bool.not_false, Int.not_lt, Int.not_le] at hb)
   refine GW_exit ?_
   refine GW_seq ?_
   refine GW_region ?_
   refine GL_rd (v := .int _ _) (wn_none rfl) rfl (rd_move rfl rfl) ?_
   refine GL_rd (wn_none rfl) rfl (rd_compl32 ((l.take k).foldl turnB (~~~ s)) rfl rfl) ?_
   refine GL_rd (v := .int _ _) (wn_none rfl) rfl (rd_assign rfl rfl) ?_
   refine GL_nil ?_
   refine GW_ret ?_
   obtain rfl : k = m := by omega
   exact ⟨_, res1 Try.results129 (rv_tmp (v := .int _ _) rfl rfl), by rw [List.take_of_length_le (by omega)]; rfl, hp⟩
 ·refine ⟨_, slots4 rfl rfl rfl rfl, hp, Nat.zero_le _⟩
theorem crc_Of (sv : Value) (m : Nat) (l : List UInt8) (w0 : World) (hs : Sl w0 sv 1 m (bys l)) : Does Try.prog 103 #[sv] w0 fun v w' => v = .int .u32 ((ofB l).toNat : Int) ∧ Hp w0 [] w' [] := by
 obtain ⟨A, c, rfl⟩ := sl_shape hs
 have hml := hs.blen
 have hmle := hs.le
 refine does_of (l := [.slice A m c]) Try.func103 (by kernel_rfl) rfl Try.ntmps103 rfl rfl (by kernel_rfl) ?_
 have hp := Hp.refl w0 []
 refine GW_seq ?_
 refine GW_region ?_
 refine GL_rd (v := .int _ _) (wn_none rfl) rfl (rd_assign rfl rfl) ?_
 refine GL_nil ?_
 refine GW_seq ?_
 refine GW_region ?_
 refine GL_rd (v := .slice _ _ _) (wn_none rfl) rfl (rd_move rfl rfl) ?_
 refine GL_call (wn_none rfl) rfl rfl (crc_More 0#32 _ _ _ _ (hs.keep hp.mod)) rfl ?_
 rintro _ w ⟨rfl, hk⟩
 have hp := hp.comp hk
 refine GL_rd (v := .int _ _) (wn_none rfl) rfl (rd_assign rfl rfl) ?_
 refine GL_nil ?_
 refine GW_ret ?_
 exact ⟨_, res1 Try.results103 (rv_tmp (v := .int _ _) rfl rfl), rfl, hp⟩
theorem crc_Four (r : BitVec 32) (w0 : World) : Does Try.prog 102 #[.int .u32 ((r).toNat : Int)] w0 fun v w' => v = .agg ⟨bys (fourL r)⟩ ∧ Hp w0 [] w' [] := by
 refine does_of (l := [.int .u32 ((r).toNat : Int)]) Try.func102 (by kernel_rfl) rfl Try.ntmps102 rfl rfl (by kernel_rfl) ?_
 have hp := Hp.refl w0 []
 refine GW_seq ?_
 refine GW_region ?_
 refine GL_alloc (wn_none rfl) rfl rfl tz198 rfl hp ?_
 intro g w hp
 refine GL_nil ?_
 refine GW_seq ?_
 refine GW_region ?_
 refine GL_rd (v := .int _ _) (wn_none rfl) rfl (rd_move rfl rfl) ?_
 refine GL_rd (wn_none rfl) rfl (rd_conv rfl rfl Try.underlying5 Try.underlying37 (by simp)) ?_
 refine GL_rd (v := .int _ _) (wn_none rfl) rfl (rd_move rfl rfl) ?_
 refine GL_rd (wn_none rfl) rfl (rd_bin rfl rfl rfl (bo_shr32 r 8 (by decide))) ?_
 refine GL_rd (wn_none rfl) rfl (rd_conv rfl rfl Try.underlying5 Try.underlying37 (by simp)) ?_
 refine GL_rd (v := .int _ _) (wn_none rfl) rfl (rd_move rfl rfl) ?_
 refine GL_rd (wn_none rfl) rfl (rd_bin rfl rfl rfl (bo_shr32 r 16 (by decide))) ?_
 refine GL_rd (wn_none rfl) rfl (rd_conv rfl rfl Try.underlying5 Try.underlying37 (by simp)) ?_
 refine GL_rd (v := .int _ _) (wn_none rfl) rfl (rd_move rfl rfl) ?_
 refine GL_rd (wn_none rfl) rfl (rd_bin rfl rfl rfl (bo_shr32 r 24 (by decide))) ?_
 refine GL_rd (wn_none rfl) rfl (rd_conv rfl rfl Try.underlying5 Try.underlying37 (by simp)) ?_
 refine GL_rd (wn_none rfl) rfl (rd_buildA (L := [.int .u8 (IntKind.u8.wrap (r.toNat : Int)), .int .u8 (IntKind.u8.wrap ((r >>> 8).toNat : Int)), .int .u8 (IntKind.u8.wrap ((r >>> 16).toNat : Int)), .int .u8 (IntKind.u8.wrap ((r >>> 24).toNat : Int))]) rfl tz198 Try.underlying198 ts5 (by kernel_rfl)) ?_
 refine GL_store (i := 0) (wn_none rfl) rfl rfl rfl rfl ts198 rfl rfl (by intro u hu; simp only [List.mem_cons, List.not_mem_nil, or_false] at hu; rcases hu with rfl | rfl | rfl | rfl <;> rfl) hp rfl (by decide) (four_raw r) ?_
 intro w hp
 refine GL_nil ?_
 refine GW_ret ?_
 exact ⟨_, res1 Try.results102 (rv_cell rfl rfl Try.underlying198 rfl ts198 rfl (hp.get 0 rfl)), rfl, hp.mods⟩
theorem crc_Holds (sv : Value) (m : Nat) (l : List UInt8) (w0 : World) (hs : Sl w0 sv 1 m (bys l)) : Does Try.prog 73 #[sv] w0 fun v w' => v = .bool (holdsL l) ∧ Hp w0 [] w' [] := by
 obtain ⟨A, c, rfl⟩ := sl_shape hs
 have hml := hs.blen
 have hmle := hs.le
 refine does_of (l := [.slice A m c]) Try.func73 (by kernel_rfl) rfl Try.ntmps73 rfl rfl (by kernel_rfl) ?_
 have hp := Hp.refl w0 []
 refine GW_seq ?_
 refine GW_region ?_
 refine GL_rd (v := .bool _) (wn_none rfl) rfl (rd_assign rfl rfl) ?_
 refine GL_nil ?_
 refine GW_seq ?_
 refine GW_region ?_
 refine GL_rd (v := .slice _ _ _) (wn_none rfl) rfl (rd_move rfl rfl) ?_
 refine GL_rd (wn_none rfl) rfl (rd_len rfl rfl Try.underlying33) ?_
 refine GL_rd (wn_none rfl) rfl (rd_bin rfl rfl rfl (bo_sub64 (by omega))) ?_
 refine GL_rd (v := .int _ _) (wn_none rfl) rfl (rd_assign rfl rfl) ?_
 refine GL_nil ?_
 refine GW_seq ?_
 refine GW_seq ?_
 refine GW_region ?_
 refine GL_rd (v := .int _ _) (wn_none rfl) rfl (rd_move rfl rfl) ?_
 refine GL_rd (wn_none rfl) rfl (rd_bin rfl rfl rfl bo_lss) ?_
 refine GL_nil ?_
 refine GW_cond rfl (fun hb => ?_) (fun hb => ?_)
 ·(try simp only [decide_eq_true_eq, decide_eq_false_iff_not, Bool.not_eq_true', Bool.not_eq_false', Bool.not_eq_eq_eq_not, Bool.not_true, Bool.not_false, Int.not_lt, Int.not_le] at hb)
  refine GW_seq ?_
  refine GW_region ?_
  refine GL_rd (v := .bool _) (wn_none rfl) rfl (rd_assign rfl rfl) ?_
  refine GL_nil ?_
  refine GW_ret ?_
  exact ⟨_, res1 Try.results73 (rv_tmp (v := .bool _) rfl rfl), by rw [holdsL, decide_eq_false (by omega)]; rfl, hp⟩
 ·(try simp only [decide_eq_true_eq, decide_eq_false_iff_not, Bool.not_eq_true', Bool.not_eq_false', Bool.not_eq_eq_eq_not, Bool.not_true, Bool.not_false, Int.not_lt, Int.not_le] at hb)
  refine GW_skip ?_
  refine GW_seq ?_
  obtain ⟨A2, c2, hA2, hc2, hs2⟩ := hs.subB (m - 4) m (by omega) (Nat.le_refl _)
  have e4 : m - (m - 4) = 4 := by omega
  rw [e4, List.take_of_length_le (by rw [List.length_drop]; omega)] at hs2
  obtain ⟨g2, b2, rfl⟩ := hs2.addr (by rw [bys_length, List.length_drop]; omega)
  refine GW_drawnK 12 (.one 0 true (.one 1 true (.one 2 true (.one 5 true (.one 6 true (.one 7 true (.one 8 true (.one 9 true (.one 3 false (.one 4 false (.one 10 true (.one 11 true .nil)))))))))))) mixed (by kernel_rfl) hp (fun _ h => h) fun w hp => ?_
  have hpS := hp
  refine GO_rdT (v := .slice _ _ _) rfl (wn_none rfl) rfl (fun w => (rd_move rfl rfl)) ?_
  refine GO_rdT (v := .int _ _) rfl (wn_none rfl) rfl (fun w => (rd_move rfl rfl)) ?_
  refine GO_rd rfl rfl (wn_none rfl) rfl hpS (fun w hp => (rd_sliceS (lo := 0) (hi := (m - 4)) rfl rfl Try.underlying33 ts5 at_none (at_some rfl (by omega)) (by omega) (by have := (Sl.cap (hs.keep hp.mod)).1; omega))) ?_
  refine GO_rdT (v := .slice _ _ _) rfl (wn_none rfl) rfl (fun w => (rd_move rfl rfl)) ?_
  refine GO_rdT (v := .int _ _) rfl (wn_none rfl) rfl (fun w => (rd_move rfl rfl)) ?_
  refine GO_rd rfl rfl (wn_none rfl) rfl hpS (fun w hp => (rd_sliceE (lo := (m - 4)) (hi := m) rfl rfl Try.underlying33 ts5 (at_some rfl (by omega)) to_none (by omega) (by have := (Sl.cap (hs.keep hp.mod)).1; omega) hA2 e4 hc2)) ?_
  refine GO_rd (v := _) rfl rfl (wn_none rfl) rfl hpS (fun w hp => (rd_toArr rfl rfl Try.underlying198 (Nat.le_refl _))) ?_
  refine GO_rd rfl rfl (wn_none rfl) rfl hpS (fun w hp => (rd_loadN (L := bys (l.drop (m - 4))) rfl rfl Try.underlying198 rfl ts198 (by rw [bys_length, List.length_drop]; omega) (fun j u hj => (hs2.keep hp.mod).get j u hj))) ?_
  refine GO_of_GL rfl ?_
  refine GL_call (wn_none rfl) rfl rfl (crc_Of _ _ _ _ (Sl.cutB (hs.keep hp.mod) 0 (m - 4) (by omega) (by omega))) rfl ?_
  rintro _ w ⟨rfl, hk⟩
  have hp := hp.comp hk
  have hpS2 := hp
  refine GL_nil ⟨fun _ => hpS2, ?_⟩
  refine GO_of_GL rfl ?_
  refine GL_call (wn_none rfl) rfl rfl (crc_Four (ofB ((l.drop 0).take (m - 4 - 0))) _) rfl ?_
  rintro _ w ⟨rfl, hk⟩
  have hp := hp.comp hk
  have hpS3 := hp
  refine GL_nil ⟨fun _ => hpS3, ?_⟩
  refine GO_rd rfl rfl (wn_none rfl) rfl hpS3 (fun w hp => (rd_bin rfl rfl rfl (bo_arrB Try.underlying198 Try.underlying5 ts5 (by kernel_rfl) rfl (by rw [List.length_drop]; omega)).1)) ?_
  refine GO_rdT (v := .bool _) rfl (wn_none rfl) rfl (fun w => (rd_assign rfl rfl)) ?_
  refine GO_nil ?_
  refine GW_ret ?_
  exact ⟨_, res1 Try.results73 (rv_tmp (v := .bool _) rfl rfl), by rw [holdsL, hml, decide_eq_true (show 4 ≤ m by omega)]; rfl, hp⟩
theorem crc_Sealed (sv : Value) (m : Nat) (l : List UInt8) (w0 : World) (hs : Sl w0 sv 1 m (bys l)) (hm : m ≤ 4294967296) : Does Try.prog 72 #[sv] w0 fun v w' => Hp w0 [] w' [.row 5 1 v (m + 4) (bys (sealL l))] := by
 obtain ⟨A, c, rfl⟩ := sl_shape hs
 have hml := hs.blen
 have hmle := hs.le
 refine does_of (l := [.slice A m c]) Try.func72 (by kernel_rfl) rfl Try.ntmps72 rfl rfl (by kernel_rfl) ?_
 have hp := Hp.refl w0 []
 refine GW_seq ?_
 refine GW_region ?_
 refine GL_rd (v := .slice _ _ _) (wn_none rfl) rfl (rd_assign rfl rfl) ?_
 refine GL_nil ?_
 refine GW_seq ?_
 refine GW_region ?_
 refine GL_rd (v := .slice _ _ _) (wn_none rfl) rfl (rd_move rfl rfl) ?_
 refine GL_call (wn_none rfl) rfl rfl (crc_Of _ _ _ _ (hs.keep hp.mod)) rfl ?_
 rintro _ w ⟨rfl, hk⟩
 have hp := hp.comp hk
 refine GL_call (wn_none rfl) rfl rfl (crc_Four (ofB l) _) rfl ?_
 rintro _ w ⟨rfl, hk⟩
 have hp := hp.comp hk
 refine GL_alloc (wn_none rfl) rfl rfl tz198 rfl hp ?_
 intro g w hp
 refine GL_store (i := 0) (wn_none rfl) rfl rfl rfl rfl ts198 rfl rfl (bys_one _) hp rfl (by decide) (splice_all _ _ rfl) ?_
 intro w hp
 refine GL_nil ?_
 refine GW_seq ?_
 refine GW_drawnK 6 (.one 1 true (.one 3 true (.one 0 false (.one 2 false (.one 4 false (.one 5 true .nil)))))) mixed (by kernel_rfl) hp (fun _ h => h) fun w hp => ?_
 have hpS := hp
 refine GO_rdT (v := .slice _ _ _) rfl (wn_none rfl) rfl (fun w => (rd_move rfl rfl)) ?_
 refine GO_rd rfl rfl (wn_none rfl) rfl hpS (fun w hp => (rd_sliceA (lo := 0) (hi := 4) rfl rfl Try.underlying198 ts5 at_none to_none (by decide) (by decide) (by decide) _ rfl)) ?_
 refine GO_of_GL rfl ?_
 refine GL_lit (L := []) (wn_none rfl) rfl rfl Try.underlying33 ts5 tz5 rfl (by kernel_rfl) rfl rfl hp ?_
 intro g2 w hp
 have hpS2 := (hp.sub (.cons _ (.cons_cons _ .slnil)))
 refine GL_nil ⟨fun _ => hpS2, ?_⟩
 refine GO_of_GL rfl ?_
 refine GL_append (i := 0) (wn_none rfl) rfl rfl rfl rfl Try.underlying33 ti5 rfl (by decide) hp rfl (hs.keep hp.mod) (bys_one _) (by omega) (by omega) ?_
 intro v w hp
 have hpS3 := (hp.sub (.cons _ (.cons_cons _ .slnil)))
 refine GL_nil ⟨fun _ => hpS3, ?_⟩
 refine GO_of_GL rfl ?_
 refine GL_append (i := 0) (wn_none rfl) rfl rfl rfl rfl Try.underlying33 ti5 rfl (by decide) hp rfl (Sl.cells (hp.get 1 rfl) 1 4 4 0 (bys (fourL (ofB l))) rfl (Nat.le_refl 4) (by decide) (by decide)) (bys_one _) (by omega) (by omega) ?_
 intro v2 w hp
 have hpS4 := (hp.sub (.cons _ (.cons_cons _ .slnil)))
 refine GL_nil ⟨fun _ => hpS4, ?_⟩
 refine GO_rdT (v := v2) rfl (wn_none rfl) rfl (fun w => (rd_assign rfl rfl)) ?_
 refine GO_nil ?_
 refine GW_ret ?_
 refine ⟨_, res1 Try.results72 (rv_tmp (v := v2) rfl rfl), ?_⟩
 have hp := hp.sub (.cons_cons _ (.cons _ .slnil))
 rw [sealL, bys_append]
 have hp := hp.cast (by rw [Nat.zero_add, List.nil_append])
 exact hp
end Go.Proofs.Ytpagpmioopaciaa
