/- Walks of functions of the program. -/
import Derived.Test.YtpagpmioopaciaaGreatPActs
import Derived.Test.YtpagpmioopaciaaGreatPTypes
import Derived.Test.YtpagpmioopaciaaGreatPCrcS
import Derived.Test.YtpagpmioopaciaaGreatPFWord
set_option linter.unusedVariables false
set_option linter.unusedSimpArgs false
namespace Go.Proofs.YtpagpmioopaciaaGreat
open Go.Mo Go.RowKit
theorem crc_turn (r : BitVec 32) (c : UInt8) (w0 : World) : Does Tryz.prog 103 #[.int .u32 ((r).toNat : Int), .int .u8 (c.toNat : Int)] w0 fun v w' => v = .int .u32 ((turnB r c).toNat : Int) ∧ Hp w0 [] w' [] := by
 refine does_of (l := [.int .u32 ((r).toNat : Int), .int .u8 (c.toNat : Int)]) Tryz.func103 (by kernel_rfl) rfl Tryz.ntmps103 rfl rfl (by kernel_rfl) ?_
 have hp := Hp.refl w0 []
 refine GW_seq ?_
 refine GW_region ?_
 refine GL_rd (v := .int _ _) (wn_none rfl) rfl (rd_assign rfl rfl) ?_
 refine GL_nil ?_
 refine GW_seq ?_
 refine GW_region ?_
 refine GL_rd (v := .int _ _) (wn_none rfl) rfl (rd_move rfl rfl) ?_
 refine GL_rd (v := .int _ _) (wn_none rfl) rfl (rd_move rfl rfl) ?_
 refine GL_rd (wn_none rfl) rfl (rd_conv8 .u32 rfl rfl Tryz.underlying64 Tryz.underlying5 (by simp)) ?_
 refine GL_rd (wn_none rfl) rfl (rd_bin rfl rfl rfl (bo_xor32 r c.toNat)) ?_
 refine GL_rd (v := .int _ _) (wn_none rfl) rfl (rd_assign rfl rfl) ?_
 refine GL_nil ?_
 refine GW_seq ?_
 refine GW_seq ?_
 refine GW_region ?_
 refine GL_rd (v := .int _ _) (wn_none rfl) rfl (rd_move rfl rfl) ?_
 refine GL_nil ?_
 refine GW_block ?_
 refine GW_loop ?_
 refine Lp_ind (α := Nat) (fun a_0 f_0 w' => match a_0 with | k => ∃ fz, f_0 = (upd (upd fz 0 (.int .u32 (((stepsB k (r ^^^ BitVec.ofNat 32 c.toNat))).toNat : Int))) 9 (.int .i64 (k : Int))) ∧ Hp w0 [] w' [] ∧ (k ≤ 8)) (fun a_0 => match a_0 with | k => 8 - k) ?_ 0 _ _ ?_
 ·rintro k f wz ⟨fz, rfl, hp, hk⟩ ihL0
  refine Lp_round ?_
  refine GW_seq ?_
  refine GW_region ?_
  refine GL_rd (wn_none rfl) rfl (rd_bin rfl rfl rfl bo_lss) ?_
  refine GL_nil ?_
  refine GW_seq ?_
  refine GW_cond rfl (fun hb => ?_) (fun hb => ?_)
  ·(try simp only [decide_eq_true_eq, decide_eq_false_iff_not, Bool.not_eq_true', Bool.not_eq_false', Bool.not_eq_eq_eq_not, Bool.not_true, Bool.not_false, Int.not_lt, Int.not_le] at hb)
   refine GW_skip ?_
   refine GW_seq ?_
   refine GW_block ?_
   refine GW_seq ?_
   refine GW_region ?_
   refine GL_rd (v := .int _ _) (wn_none rfl) rfl (rd_move rfl rfl) ?_
   refine GL_rd (wn_none rfl) rfl (rd_bin rfl rfl rfl (bo_and32 (stepsB k (r ^^^ BitVec.ofNat 32 c.toNat)) 1)) ?_
   refine GL_rd (wn_none rfl) rfl (rd_bin rfl rfl rfl bo_eql) ?_
   refine GL_nil ?_
   refine GW_cond rfl (fun hb2 => ?_) (fun hb2 => ?_)
   ·(try simp only [decide_eq_true_eq, decide_eq_false_iff_not, Bool.not_eq_true', Bool.not_eq_false', Bool.not_eq_eq_eq_not, Bool.not_true, Bool.not_false, Int.not_lt, Int.not_le] at hb2)
    have h1 : ((stepsB k (r ^^^ BitVec.ofNat 32 c.toNat)) &&& 1#32).toNat = 1 := by have h2 := hb2; omega
    have hst := congrArg (fun z : BitVec 32 => Value.int .u32 (z.toNat : Int)) (step_yes h1).symm
    refine GW_region ?_
    refine GL_rd (v := .int _ _) (wn_none rfl) rfl (rd_move rfl rfl) ?_
    refine GL_rd (wn_none rfl) rfl (rd_bin rfl rfl rfl (bo_shr32 (stepsB k (r ^^^ BitVec.ofNat 32 c.toNat)) 1 (by decide))) ?_
    refine GL_rd (wn_none rfl) rfl (rd_bin rfl rfl rfl (bo_xor32 ((stepsB k (r ^^^ BitVec.ofNat 32 c.toNat)) >>> 1) 3988292384)) ?_
    refine GL_rd (v := .int _ _) (wn_none rfl) rfl (rd_assign rfl rfl) ?_
    refine GL_nil ?_
    refine GW_region ?_
    refine GL_rd (wn_none rfl) rfl (rd_bin rfl rfl rfl (bo_add64 (by omega))) ?_
    refine GL_rd (v := .int _ _) (wn_none rfl) rfl (rd_move rfl rfl) ?_
    refine GL_nil ?_
    exact ihL0 (k + 1) _ _ (by simp only []; omega) ⟨_, slots2 hst rfl, hp, (by omega)⟩
   ·(try simp only [decide_eq_true_eq, decide_eq_false_iff_not, Bool.not_eq_true', Bool.not_eq_false', Bool.not_eq_eq_eq_not, Bool.not_true, Bool.not_false, Int.not_lt, Int.not_le] at hb2)
    have h1 : ¬ ((stepsB k (r ^^^ BitVec.ofNat 32 c.toNat)) &&& 1#32).toNat = 1 := by have h2 := hb2; omega
    have hst := congrArg (fun z : BitVec 32 => Value.int .u32 (z.toNat : Int)) (step_no h1).symm
    refine GW_region ?_
    refine GL_rd (v := .int _ _) (wn_none rfl) rfl (rd_move rfl rfl) ?_
    refine GL_rd (wn_none rfl) rfl (rd_bin rfl rfl rfl (bo_shr32 (stepsB k (r ^^^ BitVec.ofNat 32 c.toNat)) 1 (by decide))) ?_
    refine GL_rd (v := .int _ _) (wn_none rfl) rfl (rd_assign rfl rfl) ?_
    refine GL_nil ?_
    refine GW_region ?_
    refine GL_rd (wn_none rfl) rfl (rd_bin rfl rfl rfl (bo_add64 (by omega))) ?_
    refine GL_rd (v := .int _ _) (wn_none rfl) rfl (rd_move rfl rfl) ?_
    refine GL_nil ?_
    exact ihL0 (k + 1) _ _ (by simp only []; omega) ⟨_, slots2 hst rfl, hp, (by omega)⟩
  ·(try simp only [decide_eq_true_eq, decide_eq_false_iff_not, Bool.not_eq_true', Bool.not_eq_false', Bool.not_eq_eq_eq_not, Bool.not_true, Bool.not_false, Int.not_lt, Int.not_le] at hb)
   obtain rfl : k = 8 := by omega
   refine GW_exit ?_
   refine GW_seq ?_
   refine GW_region ?_
   refine GL_rd (v := .int _ _) (wn_none rfl) rfl (rd_move rfl rfl) ?_
   refine GL_rd (v := .int _ _) (wn_none rfl) rfl (rd_assign rfl rfl) ?_
   refine GL_nil ?_
   refine GW_ret ?_
   exact ⟨_, res1 Tryz.results103 (rv_tmp (v := .int _ _) rfl rfl), rfl, hp⟩
 ·refine ⟨_, slots2 rfl rfl, hp, Nat.zero_le _⟩
theorem crc_More (s : BitVec 32) (sv : Value) (m : Nat) (l : List UInt8) (w0 : World) (hs : Sl w0 sv 1 m (bys l)) : Does Tryz.prog 89 #[.int .u32 ((s).toNat : Int), sv] w0 fun v w' => v = .int .u32 ((moreB s l).toNat : Int) ∧ Hp w0 [] w' [] := by
 obtain ⟨A, c, rfl⟩ := sl_shape hs
 have hml := hs.blen
 have hmle := hs.le
 refine does_of (l := [.int .u32 ((s).toNat : Int), .slice A m c]) Tryz.func89 (by kernel_rfl) rfl Tryz.ntmps89 rfl rfl (by kernel_rfl) ?_
 have hp := Hp.refl w0 []
 refine GW_seq ?_
 refine GW_region ?_
 refine GL_rd (v := .int _ _) (wn_none rfl) rfl (rd_assign rfl rfl) ?_
 refine GL_nil ?_
 refine GW_seq ?_
 refine GW_region ?_
 refine GL_rd (v := .int _ _) (wn_none rfl) rfl (rd_move rfl rfl) ?_
 refine GL_rd (wn_none rfl) rfl (rd_compl32 s rfl rfl) ?_
 refine GL_rd (v := .int _ _) (wn_none rfl) rfl (rd_assign rfl rfl) ?_
 refine GL_nil ?_
 refine GW_seq ?_
 refine GW_seq ?_
 refine GW_region ?_
 refine GL_rd (v := .slice _ _ _) (wn_none rfl) rfl (rd_move rfl rfl) ?_
 refine GL_rd (wn_none rfl) rfl (rd_len rfl rfl Tryz.underlying35) ?_
 refine GL_rd (v := .int _ _) (wn_none rfl) rfl (rd_move rfl rfl) ?_
 refine GL_nil ?_
 refine GW_block ?_
 refine GW_loop ?_
 refine Lp_ind (α := Nat) (fun a_0 f_0 w' => match a_0 with | k => ∃ fz, f_0 = (upd (upd (upd (upd fz 5 (.int .u32 ((((l.take k).foldl turnB (~~~ s))).toNat : Int))) 10 (.slice A m c)) 11 (.int .i64 (m : Int))) 12 (.int .i64 (k : Int))) ∧ Hp w0 [] w' [] ∧ (k ≤ m)) (fun a_0 => match a_0 with | k => m - k) ?_ 0 _ _ ?_
 ·rintro k f wz ⟨fz, rfl, hp, hkm⟩ ihL0
  refine Lp_round ?_
  refine GW_seq ?_
  refine GW_region ?_
  refine GL_rd (wn_none rfl) rfl (rd_bin rfl rfl rfl bo_lss) ?_
  refine GL_nil ?_
  refine GW_seq ?_
  refine GW_cond rfl (fun hb => ?_) (fun hb => ?_)
  ·(try simp only [decide_eq_true_eq, decide_eq_false_iff_not, Bool.not_eq_true', Bool.not_eq_false', Bool.not_eq_eq_eq_not, Bool.not_true, Bool.not_false, Int.not_lt, Int.not_le] at hb)
   refine GW_skip ?_
   refine GW_seq ?_
   refine GW_block ?_
   refine GW_seq ?_
   refine GW_region ?_
   obtain ⟨gA, bA, rfl⟩ := hs.addr (by rw [bys_length]; omega)
   refine GL_rd (wn_none rfl) rfl (rd_indexS (j := k) rfl rfl rfl Tryz.underlying35 ts5 rfl (by omega) _ rfl) ?_
   refine GL_rd (wn_none rfl) rfl (rd_load rfl rfl Tryz.underlying5 rfl (Sl.byte (hs.keep hp.mod) k (by omega))) ?_
   refine GL_rd (v := .int _ _) (wn_none rfl) rfl (rd_assign rfl rfl) ?_
   refine GL_nil ?_
   refine GW_region ?_
   refine GL_rd (v := .int _ _) (wn_none rfl) rfl (rd_move rfl rfl) ?_
   refine GL_rd (v := .int _ _) (wn_none rfl) rfl (rd_move rfl rfl) ?_
   refine GL_call (wn_none rfl) rfl rfl (crc_turn ((l.take k).foldl turnB (~~~ s)) (l.getD k 0) _) rfl ?_
   rintro _ w ⟨rfl, hk⟩
   have hp := hp.comp hk
   refine GL_rd (v := .int _ _) (wn_none rfl) rfl (rd_assign rfl rfl) ?_
   refine GL_nil ?_
   refine GW_region ?_
   refine GL_rd (wn_none rfl) rfl (rd_bin rfl rfl rfl (bo_add64 (by omega))) ?_
   refine GL_rd (v := .int _ _) (wn_none rfl) rfl (rd_move rfl rfl) ?_
   refine GL_nil ?_
   have hst := congrArg (fun z : BitVec 32 => Value.int .u32 (z.toNat : Int)) (fold_take turnB (~~~ s) l k 0 (by omega)).symm
   exact ihL0 (k + 1) _ _ (by simp only []; omega) ⟨_, slots4 hst rfl rfl rfl, hp, (by omega)⟩
  ·(try simp only [decide_eq_true_eq, decide_eq_false_iff_not, Bool.not_eq_true', Bool.not_eq_false', Bool.not_eq_eq_eq_not, Bool.not_true, Bool.not_false, Int.not_lt, Int.not_le] at hb)
   refine GW_exit ?_
   refine GW_seq ?_
   refine GW_region ?_
   refine GL_rd (v := .int _ _) (wn_none rfl) rfl (rd_move rfl rfl) ?_
   refine GL_rd (wn_none rfl) rfl (rd_compl32 ((l.take k).foldl turnB (~~~ s)) rfl rfl) ?_
   refine GL_rd (v := .int _ _) (wn_none rfl) rfl (rd_assign rfl rfl) ?_
   refine GL_nil ?_
   refine GW_ret ?_
   obtain rfl : k = m := by omega
   exact ⟨_, res1 Tryz.results89 (rv_tmp (v := .int _ _) rfl rfl), by rw [List.take_of_length_le (by omega)]; rfl, hp⟩
 ·refine ⟨_, slots4 rfl rfl rfl rfl, hp, Nat.zero_le _⟩
theorem crc_Of (sv : Value) (m : Nat) (l : List UInt8) (w0 : World) (hs : Sl w0 sv 1 m (bys l)) : Does Tryz.prog 56 #[sv] w0 fun v w' => v = .int .u32 ((ofB l).toNat : Int) ∧ Hp w0 [] w' [] := by
 obtain ⟨A, c, rfl⟩ := sl_shape hs
 have hml := hs.blen
 have hmle := hs.le
 refine does_of (l := [.slice A m c]) Tryz.func56 (by kernel_rfl) rfl Tryz.ntmps56 rfl rfl (by kernel_rfl) ?_
 have hp := Hp.refl w0 []
 refine GW_seq ?_
 refine GW_region ?_
 refine GL_rd (v := .int _ _) (wn_none rfl) rfl (rd_assign rfl rfl) ?_
 refine GL_nil ?_
 refine GW_seq ?_
 refine GW_region ?_
 refine GL_rd (v := .slice _ _ _) (wn_none rfl) rfl (rd_move rfl rfl) ?_
 refine GL_call (wn_none rfl) rfl rfl (crc_More 0#32 _ _ _ _ (hs.keep hp.mod)) rfl ?_
 rintro _ w ⟨rfl, hk⟩
 have hp := hp.comp hk
 refine GL_rd (v := .int _ _) (wn_none rfl) rfl (rd_assign rfl rfl) ?_
 refine GL_nil ?_
 refine GW_ret ?_
 exact ⟨_, res1 Tryz.results56 (rv_tmp (v := .int _ _) rfl rfl), rfl, hp⟩
theorem crc_Four (r : BitVec 32) (w0 : World) : Does Tryz.prog 55 #[.int .u32 ((r).toNat : Int)] w0 fun v w' => v = .agg ⟨bys (fourL r)⟩ ∧ Hp w0 [] w' [] := by
 refine does_of (l := [.int .u32 ((r).toNat : Int)]) Tryz.func55 (by kernel_rfl) rfl Tryz.ntmps55 rfl rfl (by kernel_rfl) ?_
 have hp := Hp.refl w0 []
 refine GW_seq ?_
 refine GW_region ?_
 refine GL_alloc (wn_none rfl) rfl rfl tz86 rfl hp ?_
 intro g w hp
 refine GL_nil ?_
 refine GW_seq ?_
 refine GW_region ?_
 refine GL_rd (v := .int _ _) (wn_none rfl) rfl (rd_move rfl rfl) ?_
 refine GL_rd (wn_none rfl) rfl (rd_conv rfl rfl Tryz.underlying5 Tryz.underlying64 (by simp)) ?_
 refine GL_rd (v := .int _ _) (wn_none rfl) rfl (rd_move rfl rfl) ?_
 refine GL_rd (wn_none rfl) rfl (rd_bin rfl rfl rfl (bo_shr32 r 8 (by decide))) ?_
 refine GL_rd (wn_none rfl) rfl (rd_conv rfl rfl Tryz.underlying5 Tryz.underlying64 (by simp)) ?_
 refine GL_rd (v := .int _ _) (wn_none rfl) rfl (rd_move rfl rfl) ?_
 refine GL_rd (wn_none rfl) rfl (rd_bin rfl rfl rfl (bo_shr32 r 16 (by decide))) ?_
 refine GL_rd (wn_none rfl) rfl (rd_conv rfl rfl Tryz.underlying5 Tryz.underlying64 (by simp)) ?_
 refine GL_rd (v := .int _ _) (wn_none rfl) rfl (rd_move rfl rfl) ?_
 refine GL_rd (wn_none rfl) rfl (rd_bin rfl rfl rfl (bo_shr32 r 24 (by decide))) ?_
 refine GL_rd (wn_none rfl) rfl (rd_conv rfl rfl Tryz.underlying5 Tryz.underlying64 (by simp)) ?_
 refine GL_rd (wn_none rfl) rfl (rd_buildA (L := [.int .u8 (IntKind.u8.wrap (r.toNat : Int)), .int .u8 (IntKind.u8.wrap ((r >>> 8).toNat : Int)), .int .u8 (IntKind.u8.wrap ((r >>> 16).toNat : Int)), .int .u8 (IntKind.u8.wrap ((r >>> 24).toNat : Int))]) rfl tz86 Tryz.underlying86 ts5 (by kernel_rfl)) ?_
 refine GL_store (i := 0) (wn_none rfl) rfl rfl rfl rfl ts86 rfl rfl (by intro u hu; simp only [List.mem_cons, List.not_mem_nil, or_false] at hu; rcases hu with rfl | rfl | rfl | rfl <;> rfl) hp rfl (by decide) (four_raw r) ?_
 intro w hp
 refine GL_nil ?_
 refine GW_ret ?_
 exact ⟨_, res1 Tryz.results55 (rv_cell rfl rfl Tryz.underlying86 rfl ts86 rfl (hp.get 0 rfl)), rfl, hp.mods⟩
theorem crc_Holds (sv : Value) (m : Nat) (l : List UInt8) (w0 : World) (hs : Sl w0 sv 1 m (bys l)) : Does Tryz.prog 40 #[sv] w0 fun v w' => v = .bool (holdsL l) ∧ Hp w0 [] w' [] := by
 obtain ⟨A, c, rfl⟩ := sl_shape hs
 have hml := hs.blen
 have hmle := hs.le
 refine does_of (l := [.slice A m c]) Tryz.func40 (by kernel_rfl) rfl Tryz.ntmps40 rfl rfl (by kernel_rfl) ?_
 have hp := Hp.refl w0 []
 refine GW_seq ?_
 refine GW_region ?_
 refine GL_rd (v := .bool _) (wn_none rfl) rfl (rd_assign rfl rfl) ?_
 refine GL_nil ?_
 refine GW_seq ?_
 refine GW_region ?_
 refine GL_rd (v := .slice _ _ _) (wn_none rfl) rfl (rd_move rfl rfl) ?_
 refine GL_rd (wn_none rfl) rfl (rd_len rfl rfl Tryz.underlying35) ?_
 refine GL_rd (wn_none rfl) rfl (rd_bin rfl rfl rfl (bo_sub64 (by omega))) ?_
 refine GL_rd (v := .int _ _) (wn_none rfl) rfl (rd_assign rfl rfl) ?_
 refine GL_nil ?_
 refine GW_seq ?_
 refine GW_seq ?_
 refine GW_region ?_
 refine GL_rd (v := .int _ _) (wn_none rfl) rfl (rd_move rfl rfl) ?_
 refine GL_rd (wn_none rfl) rfl (rd_bin rfl rfl rfl bo_lss) ?_
 refine GL_nil ?_
 refine GW_cond rfl (fun hb => ?_) (fun hb => ?_)
 ·(try simp only [decide_eq_true_eq, decide_eq_false_iff_not, Bool.not_eq_true', Bool.not_eq_false', Bool.not_eq_eq_eq_not, Bool.not_true, Bool.not_false, Int.not_lt, Int.not_le] at hb)
  refine GW_seq ?_
  refine GW_region ?_
  refine GL_rd (v := .bool _) (wn_none rfl) rfl (rd_assign rfl rfl) ?_
  refine GL_nil ?_
  refine GW_ret ?_
  exact ⟨_, res1 Tryz.results40 (rv_tmp (v := .bool _) rfl rfl), by rw [holdsL, decide_eq_false (by omega)]; rfl, hp⟩
 ·(try simp only [decide_eq_true_eq, decide_eq_false_iff_not, Bool.not_eq_true', Bool.not_eq_false', Bool.not_eq_eq_eq_not, Bool.not_true, Bool.not_false, Int.not_lt, Int.not_le] at hb)
  refine GW_skip ?_
  refine GW_seq ?_
  obtain ⟨A2, c2, hA2, hc2, hs2⟩ := hs.subB (m - 4) m (by omega) (Nat.le_refl _)
  have e4 : m - (m - 4) = 4 := by omega
  rw [e4, List.take_of_length_le (by rw [List.length_drop]; omega)] at hs2
  obtain ⟨g2, b2, rfl⟩ := hs2.addr (by rw [bys_length, List.length_drop]; omega)
  refine GW_drawnK 12 (.one 0 true (.one 1 true (.one 2 true (.one 5 true (.one 6 true (.one 7 true (.one 8 true (.one 9 true (.one 3 false (.one 4 false (.one 10 true (.one 11 true .nil)))))))))))) mixed (by kernel_rfl) hp (fun _ h => h) fun w hp => ?_
  have hpS := hp
  refine GO_rdT (v := .slice _ _ _) rfl (wn_none rfl) rfl (fun w => (rd_move rfl rfl)) ?_
  refine GO_rdT (v := .int _ _) rfl (wn_none rfl) rfl (fun w => (rd_move rfl rfl)) ?_
  refine GO_rd rfl rfl (wn_none rfl) rfl hpS (fun w hp => (rd_sliceS (lo := 0) (hi := (m - 4)) rfl rfl Tryz.underlying35 ts5 at_none (at_some rfl (by omega)) (by omega) (by have := (Sl.cap (hs.keep hp.mod)).1; omega))) ?_
  refine GO_rdT (v := .slice _ _ _) rfl (wn_none rfl) rfl (fun w => (rd_move rfl rfl)) ?_
  refine GO_rdT (v := .int _ _) rfl (wn_none rfl) rfl (fun w => (rd_move rfl rfl)) ?_
  refine GO_rd rfl rfl (wn_none rfl) rfl hpS (fun w hp => (rd_sliceE (lo := (m - 4)) (hi := m) rfl rfl Tryz.underlying35 ts5 (at_some rfl (by omega)) to_none (by omega) (by have := (Sl.cap (hs.keep hp.mod)).1; omega) hA2 e4 hc2)) ?_
  refine GO_rd (v := _) rfl rfl (wn_none rfl) rfl hpS (fun w hp => (rd_toArr rfl rfl Tryz.underlying86 (Nat.le_refl _))) ?_
  refine GO_rd rfl rfl (wn_none rfl) rfl hpS (fun w hp => (rd_loadN (L := bys (l.drop (m - 4))) rfl rfl Tryz.underlying86 rfl ts86 (by rw [bys_length, List.length_drop]; omega) (fun j u hj => (hs2.keep hp.mod).get j u hj))) ?_
  refine GO_of_GL rfl ?_
  refine GL_call (wn_none rfl) rfl rfl (crc_Of _ _ _ _ (Sl.cutB (hs.keep hp.mod) 0 (m - 4) (by omega) (by omega))) rfl ?_
  rintro _ w ⟨rfl, hk⟩
  have hp := hp.comp hk
  have hpS2 := hp
  refine GL_nil ⟨fun _ => hpS2, ?_⟩
  refine GO_of_GL rfl ?_
  refine GL_call (wn_none rfl) rfl rfl (crc_Four (ofB ((l.drop 0).take (m - 4 - 0))) _) rfl ?_
  rintro _ w ⟨rfl, hk⟩
  have hp := hp.comp hk
  have hpS3 := hp
  refine GL_nil ⟨fun _ => hpS3, ?_⟩
  refine GO_rd rfl rfl (wn_none rfl) rfl hpS3 (fun w hp => (rd_bin rfl rfl rfl (bo_arrB Tryz.underlying86 Tryz.underlying5 ts5 (by kernel_rfl) rfl (by rw [List.length_drop]; omega)).1)) ?_
  refine GO_rdT (v := .bool _) rfl (wn_none rfl) rfl (fun w => (rd_assign rfl rfl)) ?_
  refine GO_nil ?_
  refine GW_ret ?_
  exact ⟨_, res1 Tryz.results40 (rv_tmp (v := .bool _) rfl rfl), by rw [holdsL, hml, decide_eq_true (show 4 ≤ m by omega)]; rfl, hp⟩
theorem crc_Sealed (sv : Value) (m : Nat) (l : List UInt8) (w0 : World) (hs : Sl w0 sv 1 m (bys l)) (hm : m ≤ 4294967296) : Does Tryz.prog 28 #[sv] w0 fun v w' => Hp w0 [] w' [.row 5 1 v (m + 4) (bys (sealL l))] := by
 obtain ⟨A, c, rfl⟩ := sl_shape hs
 have hml := hs.blen
 have hmle := hs.le
 refine does_of (l := [.slice A m c]) Tryz.func28 (by kernel_rfl) rfl Tryz.ntmps28 rfl rfl (by kernel_rfl) ?_
 have hp := Hp.refl w0 []
 refine GW_seq ?_
 refine GW_region ?_
 refine GL_rd (v := .slice _ _ _) (wn_none rfl) rfl (rd_assign rfl rfl) ?_
 refine GL_nil ?_
 refine GW_seq ?_
 refine GW_region ?_
 refine GL_rd (v := .slice _ _ _) (wn_none rfl) rfl (rd_move rfl rfl) ?_
 refine GL_call (wn_none rfl) rfl rfl (crc_Of _ _ _ _ (hs.keep hp.mod)) rfl ?_
 rintro _ w ⟨rfl, hk⟩
 have hp := hp.comp hk
 refine GL_call (wn_none rfl) rfl rfl (crc_Four (ofB l) _) rfl ?_
 rintro _ w ⟨rfl, hk⟩
 have hp := hp.comp hk
 refine GL_alloc (wn_none rfl) rfl rfl tz86 rfl hp ?_
 intro g w hp
 refine GL_store (i := 0) (wn_none rfl) rfl rfl rfl rfl ts86 rfl rfl (bys_one _) hp rfl (by decide) (splice_all _ _ rfl) ?_
 intro w hp
 refine GL_nil ?_
 refine GW_seq ?_
 refine GW_drawnK 6 (.one 1 true (.one 3 true (.one 0 false (.one 2 false (.one 4 false (.one 5 true .nil)))))) mixed (by kernel_rfl) hp (fun _ h => h) fun w hp => ?_
 have hpS := hp
 refine GO_rdT (v := .slice _ _ _) rfl (wn_none rfl) rfl (fun w => (rd_move rfl rfl)) ?_
 refine GO_rd rfl rfl (wn_none rfl) rfl hpS (fun w hp => (rd_sliceA (lo := 0) (hi := 4) rfl rfl Tryz.underlying86 ts5 at_none to_none (by decide) (by decide) (by decide) _ rfl)) ?_
 refine GO_of_GL rfl ?_
 refine GL_lit (L := []) (wn_none rfl) rfl rfl Tryz.underlying35 ts5 tz5 rfl (by kernel_rfl) rfl rfl hp ?_
 intro g2 w hp
 have hpS2 := (hp.sub (.cons _ (.cons_cons _ .slnil)))
 refine GL_nil ⟨fun _ => hpS2, ?_⟩
 refine GO_of_GL rfl ?_
 refine GL_append (i := 0) (wn_none rfl) rfl rfl rfl rfl Tryz.underlying35 ti5 rfl (by decide) hp rfl (hs.keep hp.mod) (bys_one _) (by omega) (by omega) ?_
 intro v w hp
 have hpS3 := (hp.sub (.cons _ (.cons_cons _ .slnil)))
 refine GL_nil ⟨fun _ => hpS3, ?_⟩
 refine GO_of_GL rfl ?_
 refine GL_append (i := 0) (wn_none rfl) rfl rfl rfl rfl Tryz.underlying35 ti5 rfl (by decide) hp rfl (Sl.cells (hp.get 1 rfl) 1 4 4 0 (bys (fourL (ofB l))) rfl (Nat.le_refl 4) (by decide) (by decide)) (bys_one _) (by omega) (by omega) ?_
 intro v2 w hp
 have hpS4 := (hp.sub (.cons _ (.cons_cons _ .slnil)))
 refine GL_nil ⟨fun _ => hpS4, ?_⟩
 refine GO_rdT (v := v2) rfl (wn_none rfl) rfl (fun w => (rd_assign rfl rfl)) ?_
 refine GO_nil ?_
 refine GW_ret ?_
 refine ⟨_, res1 Tryz.results28 (rv_tmp (v := v2) rfl rfl), ?_⟩
 have hp := hp.sub (.cons_cons _ (.cons _ .slnil))
 rw [sealL, bys_append]
 have hp := hp.cast (by rw [Nat.zero_add, List.nil_append])
 exact hp
theorem ref_bits (sv : Value) (m : Nat) (l : List UInt8) (w0 : World) (hs : Sl w0 sv 1 m (bys l)) (hm : m ≤ 4294967296) : Does Tryz.prog 57 #[sv] w0 fun v w' => Hp w0 [] w' [.row 5 1 v (8 * m) (bys ((bitsL l).map bitU))] := by
 obtain ⟨A, c, rfl⟩ := sl_shape hs
 have hml := hs.blen
 have hmle := hs.le
 refine does_of (l := [.slice A m c]) Tryz.func57 (by kernel_rfl) rfl Tryz.ntmps57 rfl rfl (by kernel_rfl) ?_
 have hp := Hp.refl w0 []
 refine GW_seq ?_
 refine GW_region ?_
 refine GL_rd (v := .slice _ _ _) (wn_none rfl) rfl (rd_assign rfl rfl) ?_
 refine GL_nil ?_
 refine GW_seq ?_
 refine GW_region ?_
 refine GL_rd (v := .slice _ _ _) (wn_none rfl) rfl (rd_assign rfl rfl) ?_
 refine GL_nil ?_
 refine GW_seq ?_
 refine GW_seq ?_
 refine GW_region ?_
 refine GL_rd (v := .int _ _) (wn_none rfl) rfl (rd_assign rfl rfl) ?_
 refine GL_nil ?_
 refine GW_block ?_
 refine GW_loop ?_
 refine Lp_ind (α := Nat × Value) (fun a_0 f_0 w' => match a_0 with | (i, v) => ∃ fz, f_0 = (upd (upd (upd fz 0 (.slice A m c)) 3 (v)) 4 (.int .i64 (i : Int))) ∧ Hp w0 [] w' [.row 5 1 v (8 * i) (bys ((bitsL (l.take i)).map bitU))] ∧ (i ≤ m)) (fun a_0 => match a_0 with | (i, v) => m - i) ?_ (0, .slice none 0 0) _ _ ?_
 ·rintro ⟨i, v⟩ f wz ⟨fz, rfl, hp, hi0⟩ ihL0
  refine Lp_round ?_
  refine GW_seq ?_
  refine GW_seq ?_
  refine GW_region ?_
  refine GL_rd (v := .int _ _) (wn_none rfl) rfl (rd_move rfl rfl) ?_
  refine GL_rd (v := .slice _ _ _) (wn_none rfl) rfl (rd_move rfl rfl) ?_
  refine GL_rd (wn_none rfl) rfl (rd_len rfl rfl Tryz.underlying35) ?_
  refine GL_rd (wn_none rfl) rfl (rd_bin rfl rfl rfl bo_lss) ?_
  refine GL_nil ?_
  refine GW_cond rfl (fun hb => ?_) (fun hb => ?_)
  ·(try simp only [decide_eq_true_eq, decide_eq_false_iff_not, Bool.not_eq_true', Bool.not_eq_false', Bool.not_eq_eq_eq_not, Bool.not_true, Bool.not_false, Int.not_lt, Int.not_le] at hb)
   refine GW_skip ?_
   refine GW_seq ?_
   refine GW_block ?_
   refine GW_seq ?_
   refine GW_region ?_
   refine GL_rd (v := .int _ _) (wn_none rfl) rfl (rd_assign rfl rfl) ?_
   refine GL_nil ?_
   refine GW_block ?_
   refine GW_loop ?_
   refine Lp_ind (α := Nat × Value) (fun a_0 f_0 w' => match a_0 with | (k, v) => ∃ fz, f_0 = (upd (upd (upd (upd fz 0 (.slice A m c)) 3 (v)) 4 (.int .i64 (i : Int))) 5 (.int .i64 (k : Int))) ∧ Hp w0 [] w' [.row 5 1 v (8 * i + k) (bys ((bitsL (l.take i) ++ (bits8 (l.getD i 0)).take k).map bitU))] ∧ (k ≤ 8)) (fun a_0 => match a_0 with | (k, v) => 8 - k) ?_ (0, v) _ _ ?_
   ·rintro ⟨k, v⟩ f wz ⟨fz, rfl, hp, hk8⟩ ihL1
    refine Lp_round ?_
    refine GW_seq ?_
    refine GW_seq ?_
    refine GW_region ?_
    refine GL_rd (v := .int _ _) (wn_none rfl) rfl (rd_move rfl rfl) ?_
    refine GL_rd (wn_none rfl) rfl (rd_bin rfl rfl rfl bo_lss) ?_
    refine GL_nil ?_
    refine GW_cond rfl (fun hb2 => ?_) (fun hb2 => ?_)
    ·(try simp only [decide_eq_true_eq, decide_eq_false_iff_not, Bool.not_eq_true', Bool.not_eq_false', Bool.not_eq_eq_eq_not, Bool.not_true, Bool.not_false, Int.not_lt, Int.not_le] at hb2)
     refine GW_skip ?_
     refine GW_seq ?_
     refine GW_block ?_
     refine GW_region ?_
     refine GL_rd (v := v) (wn_none rfl) rfl (rd_move rfl rfl) ?_
     refine GL_rd (v := .slice _ _ _) (wn_none rfl) rfl (rd_move rfl rfl) ?_
     refine GL_rd (v := .int _ _) (wn_none rfl) rfl (rd_move rfl rfl) ?_
     obtain ⟨gA, bA, rfl⟩ := hs.addr (by rw [bys_length]; omega)
     refine GL_rd (wn_none rfl) rfl (rd_indexS (j := i) rfl rfl rfl Tryz.underlying35 ts5 rfl (by omega) _ rfl) ?_
     refine GL_rd (wn_none rfl) rfl (rd_load rfl rfl Tryz.underlying5 rfl (Sl.byte (hs.keep hp.mod) i (by omega))) ?_
     refine GL_rd (v := .int _ _) (wn_none rfl) rfl (rd_move rfl rfl) ?_
     refine GL_rd (wn_none rfl) rfl (rd_convE (q := (k : Int)) rfl rfl Tryz.underlying88 Tryz.underlying3 (by simp) (IntWalk.u64_in _ (by omega))) ?_
     refine GL_rd (wn_none rfl) rfl (rd_bin rfl rfl rfl (bo_shr (by omega) (by omega))) ?_
     refine GL_rd (wn_none rfl) rfl (rd_bin rfl rfl rfl (bo_bit (l.getD i 0) k (by omega))) ?_
     refine GL_lit (L := [.int .u8 ((bitU ((l.getD i 0).toNat.testBit k)).toNat : Int)]) (wn_none rfl) rfl rfl Tryz.underlying35 ts5 tz5 rfl (by kernel_rfl) rfl rfl hp ?_
     intro g w hp
     refine GL_append (i := 1) (wn_none rfl) rfl rfl rfl rfl Tryz.underlying35 ti5 rfl (by decide) hp rfl (Sl.row (hp.get 0 rfl)) (one1 rfl) (by omega) (by omega) ?_
     intro v w hp
     refine GL_rd (v := v) (wn_none rfl) rfl (rd_assign rfl rfl) ?_
     refine GL_nil ?_
     refine GW_region ?_
     refine GL_rd (v := .int _ _) (wn_none rfl) rfl (rd_move rfl rfl) ?_
     refine GL_rd (wn_none rfl) rfl (rd_bin rfl rfl rfl (bo_add64 (by omega))) ?_
     refine GL_rd (v := .int _ _) (wn_none rfl) rfl (rd_assign rfl rfl) ?_
     refine GL_nil ?_
     have hp := hp.drop 1
     have hp : Hp w0 [] w [.row 5 1 v (8 * i + (k + 1)) (bys ((bitsL (l.take i) ++ (bits8 (l.getD i 0)).take (k + 1)).map bitU))] := by rw [bits8_take _ _ (by omega), ← List.append_assoc, ← bits_push]; exact hp
     exact ihL1 (k + 1, v) _ _ (by simp only []; omega) ⟨_, slots4 rfl rfl rfl rfl, hp, (by omega)⟩
    ·(try simp only [decide_eq_true_eq, decide_eq_false_iff_not, Bool.not_eq_true', Bool.not_eq_false', Bool.not_eq_eq_eq_not, Bool.not_true, Bool.not_false, Int.not_lt, Int.not_le] at hb2)
     obtain rfl : k = 8 := by omega
     rw [List.take_of_length_le (show (bits8 (l.getD i 0)).length ≤ 8 from Nat.le_refl 8), ← bitsL_take (by omega), show 8 * i + 8 = 8 * (i + 1) by omega] at hp
     refine GW_exit ?_
     refine GW_region ?_
     refine GL_rd (v := .int _ _) (wn_none rfl) rfl (rd_move rfl rfl) ?_
     refine GL_rd (wn_none rfl) rfl (rd_bin rfl rfl rfl (bo_add64 (by omega))) ?_
     refine GL_rd (v := .int _ _) (wn_none rfl) rfl (rd_assign rfl rfl) ?_
     refine GL_nil ?_
     exact ihL0 (i + 1, v) _ _ (by simp only []; omega) ⟨_, slots3 rfl rfl rfl, hp, (by omega)⟩
   ·have hp := hp.cast (by rw [show (8 * i) = 8 * i + 0 from rfl, show bitsL (l.take i) = bitsL (l.take i) ++ (bits8 (l.getD i 0)).take 0 from by rw [List.take_zero, List.append_nil]])
    refine ⟨_, slots4 rfl rfl rfl rfl, hp, Nat.zero_le _⟩
  ·(try simp only [decide_eq_true_eq, decide_eq_false_iff_not, Bool.not_eq_true', Bool.not_eq_false', Bool.not_eq_eq_eq_not, Bool.not_true, Bool.not_false, Int.not_lt, Int.not_le] at hb)
   refine GW_exit ?_
   refine GW_seq ?_
   refine GW_region ?_
   refine GL_rd (v := v) (wn_none rfl) rfl (rd_move rfl rfl) ?_
   refine GL_rd (v := v) (wn_none rfl) rfl (rd_assign rfl rfl) ?_
   refine GL_nil ?_
   refine GW_ret ?_
   obtain rfl : i = m := by omega
   rw [List.take_of_length_le (by omega)] at hp
   exact ⟨_, res1 Tryz.results57 (rv_tmp (v := v) rfl rfl), hp⟩
 ·have hp := hp.nilRow 5 1
  refine ⟨_, slots3 rfl rfl rfl, hp, Nat.zero_le _⟩
theorem ref_Of (sv : Value) (m : Nat) (l : List UInt8) (w0 : World) (hs : Sl w0 sv 1 m (bys l)) (hm : m ≤ 4294967296) : Does Tryz.prog 31 #[sv] w0 fun v w' => v = .int .u32 ((ofB l).toNat : Int) ∧ Hp w0 [] w' [] := by
 obtain ⟨A, c, rfl⟩ := sl_shape hs
 have hml := hs.blen
 have hmle := hs.le
 have hbl := bitsL_length l
 have hsum := ref_sum l
 rw [hbl, hml] at hsum
 have hMl : (bitsL l ++ List.replicate 32 false).length = 8 * m + 32 := by rw [List.length_append, List.length_replicate, hbl, hml]
 refine does_of (l := [.slice A m c]) Tryz.func31 (by kernel_rfl) rfl Tryz.ntmps31 rfl rfl (by kernel_rfl) ?_
 have hp := Hp.refl w0 []
 refine GW_seq ?_
 refine GW_region ?_
 refine GL_rd (v := .int _ _) (wn_none rfl) rfl (rd_assign rfl rfl) ?_
 refine GL_nil ?_
 refine GW_seq ?_
 refine GW_region ?_
 refine GL_rd (v := .slice _ _ _) (wn_none rfl) rfl (rd_move rfl rfl) ?_
 refine GL_call (wn_none rfl) rfl rfl (ref_bits _ _ _ _ (hs.keep hp.mod) hm) rfl ?_
 intro v w hk
 have hp := hp.comp hk
 refine GL_appendZ (i := 0) (k := 32) (wn_none rfl) rfl rfl rfl rfl Tryz.underlying35 Tryz.underlying3 ti5 hp rfl (by decide) (by omega) ?_
 intro v w hp
 obtain ⟨Av, cv, rfl⟩ := row_shape (hp.get 0 rfl)
 obtain ⟨gR, cap, hq, hcap⟩ := row_addr (hp.get 0 rfl) (by omega)
 injection hq with h1 h2 h3
 subst h1 h3
 have hp : Hp w0 [] w [.row 5 1 (.slice (some ⟨gR, 0, none⟩) (8 * m + 32) cv) (8 * m + 32) (bys ((invL 0 (bitsL l ++ List.replicate 32 false)).map bitU))] := by rw [show invL 0 (bitsL l ++ List.replicate 32 false) = bitsL l ++ List.replicate 32 false from rfl, List.map_append, List.map_replicate]; exact hp
 refine GL_rd (v := .slice _ _ _) (wn_none rfl) rfl (rd_assign rfl rfl) ?_
 refine GL_nil ?_
 refine GW_seq ?_
 refine GW_seq ?_
 refine GW_region ?_
 refine GL_rd (v := .int _ _) (wn_none rfl) rfl (rd_assign rfl rfl) ?_
 refine GL_nil ?_
 refine GW_block ?_
 refine GW_loop ?_
 refine Lp_ind (α := Nat) (fun a_0 f_0 w' => match a_0 with | k => ∃ fz, f_0 = (upd (upd fz 3 (.slice (some ⟨gR, 0, none⟩) (8 * m + 32) cv)) 4 (.int .i64 (k : Int))) ∧ Hp w0 [] w' [.row 5 1 (.slice (some ⟨gR, 0, none⟩) (8 * m + 32) cv) (8 * m + 32) (bys ((invL k (bitsL l ++ List.replicate 32 false)).map bitU))] ∧ (k ≤ 32)) (fun a_0 => match a_0 with | k => 32 - k) ?_ 0 _ _ ?_
 ·rintro k f wz ⟨fz, rfl, hp, hk⟩ ihL0
  refine Lp_round ?_
  refine GW_seq ?_
  refine GW_seq ?_
  refine GW_region ?_
  refine GL_rd (v := .int _ _) (wn_none rfl) rfl (rd_move rfl rfl) ?_
  refine GL_rd (wn_none rfl) rfl (rd_bin rfl rfl rfl bo_lss) ?_
  refine GL_nil ?_
  refine GW_cond rfl (fun hb => ?_) (fun hb => ?_)
  ·(try simp only [decide_eq_true_eq, decide_eq_false_iff_not, Bool.not_eq_true', Bool.not_eq_false', Bool.not_eq_eq_eq_not, Bool.not_true, Bool.not_false, Int.not_lt, Int.not_le] at hb)
   refine GW_skip ?_
   refine GW_seq ?_
   refine GW_block ?_
   refine GW_region ?_
   refine GL_rd (v := .slice _ _ _) (wn_none rfl) rfl (rd_move rfl rfl) ?_
   refine GL_rd (v := .int _ _) (wn_none rfl) rfl (rd_move rfl rfl) ?_
   refine GL_rd (v := .slice _ _ _) (wn_none rfl) rfl (rd_move rfl rfl) ?_
   refine GL_rd (v := .int _ _) (wn_none rfl) rfl (rd_move rfl rfl) ?_
   refine GL_rd (wn_none rfl) rfl (rd_indexS (j := k) rfl rfl rfl Tryz.underlying35 ts5 rfl (by omega) _ rfl) ?_
   refine GL_rd (wn_none rfl) rfl (rd_load rfl rfl Tryz.underlying5 rfl (bit_cell (Sl.row (hp.get 0 rfl)) k (by rw [invL_length, hMl]; omega))) ?_
   refine GL_rd (wn_none rfl) rfl (rd_bin rfl rfl rfl (bo_flip ((invL k (bitsL l ++ List.replicate 32 false)).getD k false))) ?_
   refine GL_rd (wn_none rfl) rfl (rd_indexS (j := k) rfl rfl rfl Tryz.underlying35 ts5 rfl (by omega) _ rfl) ?_
   refine GL_storeR (i := 0) (wn_none rfl) rfl rfl rfl rfl ts5 rfl rfl (one1 rfl) hp rfl rfl (by rw [bits_len, invL_length, hMl]; omega) (inv_store (by rw [hMl]; omega)) ?_
   intro w hp
   refine GL_nil ?_
   refine GW_region ?_
   refine GL_rd (v := .int _ _) (wn_none rfl) rfl (rd_move rfl rfl) ?_
   refine GL_rd (wn_none rfl) rfl (rd_bin rfl rfl rfl (bo_add64 (by omega))) ?_
   refine GL_rd (v := .int _ _) (wn_none rfl) rfl (rd_assign rfl rfl) ?_
   refine GL_nil ?_
   exact ihL0 (k + 1) _ _ (by simp only []; omega) ⟨_, slots2 rfl rfl, hp, (by omega)⟩
  ·(try simp only [decide_eq_true_eq, decide_eq_false_iff_not, Bool.not_eq_true', Bool.not_eq_false', Bool.not_eq_eq_eq_not, Bool.not_true, Bool.not_false, Int.not_lt, Int.not_le] at hb)
   obtain rfl : k = 32 := by omega
   refine GW_exit ?_
   refine GW_seq ?_
   refine GW_region ?_
   refine GL_lit (L := bys (polyL.map bitU)) (wn_none rfl) rfl rfl Tryz.underlying35 ts5 tz5 rfl (by kernel_rfl) rfl rfl hp ?_
   intro g w hp
   refine GL_rd (v := .slice _ _ _) (wn_none rfl) rfl (rd_assign rfl rfl) ?_
   refine GL_nil ?_
   refine GW_seq ?_
   refine GW_seq ?_
   refine GW_region ?_
   refine GL_rd (v := .int _ _) (wn_none rfl) rfl (rd_assign rfl rfl) ?_
   refine GL_nil ?_
   refine GW_block ?_
   refine GW_loop ?_
   refine Lp_ind (α := Nat × List Bool) (fun a_0 f_0 w' => match a_0 with | (i, pre) => ∃ fz, f_0 = (upd (upd (upd fz 3 (.slice (some ⟨gR, 0, none⟩) (8 * m + 32) cv)) 5 (.slice (some ⟨g, 0, none⟩) 33 33)) 6 (.int .i64 (i : Int))) ∧ Hp w0 [] w' [.row 5 1 (.slice (some ⟨g, 0, none⟩) 33 33) 33 (bys (polyL.map bitU)), .row 5 1 (.slice (some ⟨gR, 0, none⟩) (8 * m + 32) cv) (8 * m + 32) (bys ((pre ++ (divL i (invL 32 (bitsL l ++ List.replicate 32 false)))).map bitU))] ∧ (i ≤ 8 * m) ∧ (pre.length = i)) (fun a_0 => match a_0 with | (i, pre) => 8 * m - i) ?_ (0, []) _ _ ?_
   ·rintro ⟨i, pre⟩ f wz ⟨fz, rfl, hp, hi0, hpre⟩ ihL1
    have hcl : (divL i (invL 32 (bitsL l ++ List.replicate 32 false))).length = 8 * m + 32 - i := by rw [divL_len _ _ (by rw [invL_length, hMl]; omega), invL_length, hMl]
    refine Lp_round ?_
    refine GW_seq ?_
    refine GW_seq ?_
    refine GW_region ?_
    refine GL_rd (v := .int _ _) (wn_none rfl) rfl (rd_move rfl rfl) ?_
    refine GL_rd (wn_none rfl) rfl (rd_bin rfl rfl rfl (bo_add64 (by omega))) ?_
    refine GL_rd (v := .slice _ _ _) (wn_none rfl) rfl (rd_move rfl rfl) ?_
    refine GL_rd (wn_none rfl) rfl (rd_len rfl rfl Tryz.underlying35) ?_
    refine GL_rd (wn_none rfl) rfl (rd_bin rfl rfl rfl bo_lss) ?_
    refine GL_nil ?_
    refine GW_cond rfl (fun hb2 => ?_) (fun hb2 => ?_)
    ·(try simp only [decide_eq_true_eq, decide_eq_false_iff_not, Bool.not_eq_true', Bool.not_eq_false', Bool.not_eq_eq_eq_not, Bool.not_true, Bool.not_false, Int.not_lt, Int.not_le] at hb2)
     refine GW_skip ?_
     refine GW_seq ?_
     refine GW_block ?_
     refine GW_seq ?_
     refine GW_region ?_
     refine GL_rd (v := .slice _ _ _) (wn_none rfl) rfl (rd_move rfl rfl) ?_
     refine GL_rd (v := .int _ _) (wn_none rfl) rfl (rd_move rfl rfl) ?_
     refine GL_rd (wn_none rfl) rfl (rd_indexS (j := i) rfl rfl rfl Tryz.underlying35 ts5 rfl (by omega) _ rfl) ?_
     refine GL_rd (wn_none rfl) rfl (rd_load rfl rfl Tryz.underlying5 rfl (bit_cell2 (Sl.row (hp.get 1 rfl)) i 0 hpre (by omega))) ?_
     refine GL_rd (wn_none rfl) rfl (rd_bin rfl rfl rfl bo_eql) ?_
     refine GL_nil ?_
     refine GW_cond rfl (fun hb3 => ?_) (fun hb3 => ?_)
     ·(try simp only [decide_eq_true_eq, decide_eq_false_iff_not, Bool.not_eq_true', Bool.not_eq_false', Bool.not_eq_eq_eq_not, Bool.not_true, Bool.not_false, Int.not_lt, Int.not_le] at hb3)
      have hh : (divL i (invL 32 (bitsL l ++ List.replicate 32 false))).getD 0 false = true := (bitU_one _).1 hb3
      refine GW_seq ?_
      refine GW_region ?_
      refine GL_rd (v := .int _ _) (wn_none rfl) rfl (rd_assign rfl rfl) ?_
      refine GL_nil ?_
      refine GW_block ?_
      refine GW_loop ?_
      refine Lp_ind (α := Nat) (fun a_0 f_0 w' => match a_0 with | k => ∃ fz, f_0 = (upd (upd (upd (upd fz 3 (.slice (some ⟨gR, 0, none⟩) (8 * m + 32) cv)) 5 (.slice (some ⟨g, 0, none⟩) 33 33)) 6 (.int .i64 (i : Int))) 7 (.int .i64 (k : Int))) ∧ Hp w0 [] w' [.row 5 1 (.slice (some ⟨g, 0, none⟩) 33 33) 33 (bys (polyL.map bitU)), .row 5 1 (.slice (some ⟨gR, 0, none⟩) (8 * m + 32) cv) (8 * m + 32) (bys ((pre ++ midL (divL i (invL 32 (bitsL l ++ List.replicate 32 false))) k).map bitU))] ∧ (k ≤ 33)) (fun a_0 => match a_0 with | k => 33 - k) ?_ 0 _ _ ?_
      ·rintro k f wz ⟨fz, rfl, hp, hk⟩ ihL2
       refine Lp_round ?_
       refine GW_seq ?_
       refine GW_seq ?_
       refine GW_region ?_
       refine GL_rd (v := .int _ _) (wn_none rfl) rfl (rd_move rfl rfl) ?_
       refine GL_rd (wn_none rfl) rfl (rd_bin rfl rfl rfl bo_lss) ?_
       refine GL_nil ?_
       refine GW_cond rfl (fun hb4 => ?_) (fun hb4 => ?_)
       ·(try simp only [decide_eq_true_eq, decide_eq_false_iff_not, Bool.not_eq_true', Bool.not_eq_false', Bool.not_eq_eq_eq_not, Bool.not_true, Bool.not_false, Int.not_lt, Int.not_le] at hb4)
        refine GW_skip ?_
        refine GW_seq ?_
        refine GW_block ?_
        refine GW_drawnK 16 (.one 0 true (.one 1 true (.one 2 true (.one 3 true (.one 4 true (.one 5 true (.one 6 true (.one 7 true (.one 8 true (.one 9 true (.one 10 true (.one 11 true (.one 12 true (.one 13 true (.one 14 true (.one 15 true (.one 16 false .nil))))))))))))))))) mixed (by kernel_rfl) hp (fun _ h => h) fun w hp => ?_
        have hpS := hp
        refine GO_rdT (v := .slice _ _ _) rfl (wn_none rfl) rfl (fun w => (rd_move rfl rfl)) ?_
        refine GO_rdT (v := .int _ _) rfl (wn_none rfl) rfl (fun w => (rd_move rfl rfl)) ?_
        refine GO_rdT (v := .int _ _) rfl (wn_none rfl) rfl (fun w => (rd_move rfl rfl)) ?_
        refine GO_rd rfl rfl (wn_none rfl) rfl hpS (fun w hp => (rd_bin rfl rfl rfl (bo_add64 (by omega)))) ?_
        refine GO_rdT (v := .slice _ _ _) rfl (wn_none rfl) rfl (fun w => (rd_move rfl rfl)) ?_
        refine GO_rdT (v := .int _ _) rfl (wn_none rfl) rfl (fun w => (rd_move rfl rfl)) ?_
        refine GO_rdT (v := .int _ _) rfl (wn_none rfl) rfl (fun w => (rd_move rfl rfl)) ?_
        refine GO_rd rfl rfl (wn_none rfl) rfl hpS (fun w hp => (rd_bin rfl rfl rfl (bo_add64 (by omega)))) ?_
        refine GO_rdT rfl (wn_none rfl) rfl (fun w => (rd_indexS (j := (i + k)) rfl rfl rfl Tryz.underlying35 ts5 rfl (by omega) _ rfl)) ?_
        refine GO_rd rfl rfl (wn_none rfl) rfl hpS (fun w hp => (rd_load rfl rfl Tryz.underlying5 rfl (bit_cell2 (Sl.row (hp.get 1 rfl)) i k hpre (by rw [midL_length]; omega)))) ?_
        refine GO_rdT (v := .slice _ _ _) rfl (wn_none rfl) rfl (fun w => (rd_move rfl rfl)) ?_
        refine GO_rdT (v := .int _ _) rfl (wn_none rfl) rfl (fun w => (rd_move rfl rfl)) ?_
        refine GO_rdT rfl (wn_none rfl) rfl (fun w => (rd_indexS (j := k) rfl rfl rfl Tryz.underlying35 ts5 rfl (by omega) _ rfl)) ?_
        refine GO_rd rfl rfl (wn_none rfl) rfl hpS (fun w hp => (rd_load rfl rfl Tryz.underlying5 rfl (bit_cell (Sl.row (hp.get 0 rfl)) k (by simp [polyL]; omega)))) ?_
        refine GO_rd rfl rfl (wn_none rfl) rfl hpS (fun w hp => (rd_bin rfl rfl rfl (bo_xorbit ((midL (divL i (invL 32 (bitsL l ++ List.replicate 32 false))) k).getD k false) (polyL.getD k false)))) ?_
        refine GO_rdT rfl (wn_none rfl) rfl (fun w => (rd_indexS (j := (i + k)) rfl rfl rfl Tryz.underlying35 ts5 rfl (by omega) _ rfl)) ?_
        refine GO_of_GL rfl ?_
        refine GL_storeR (i := 1) (wn_none rfl) rfl rfl rfl rfl ts5 rfl rfl (one1 rfl) hp rfl rfl (by rw [bits_len, List.length_append, midL_length]; omega) (mid_store hpre (by omega) (by omega)) ?_
        intro w hp
        refine GL_nil ⟨fun h => absurd h (by decide), ?_⟩
        refine GO_nil ?_
        refine GW_region ?_
        refine GL_rd (v := .int _ _) (wn_none rfl) rfl (rd_move rfl rfl) ?_
        refine GL_rd (wn_none rfl) rfl (rd_bin rfl rfl rfl (bo_add64 (by omega))) ?_
        refine GL_rd (v := .int _ _) (wn_none rfl) rfl (rd_assign rfl rfl) ?_
        refine GL_nil ?_
        exact ihL2 (k + 1) _ _ (by simp only []; omega) ⟨_, slots4 rfl rfl rfl rfl, hp, (by omega)⟩
       ·(try simp only [decide_eq_true_eq, decide_eq_false_iff_not, Bool.not_eq_true', Bool.not_eq_false', Bool.not_eq_eq_eq_not, Bool.not_true, Bool.not_false, Int.not_lt, Int.not_le] at hb4)
        obtain rfl : k = 33 := by omega
        rw [mid_all (by omega)] at hp
        refine GW_exit ?_
        refine GW_region ?_
        refine GL_rd (v := .int _ _) (wn_none rfl) rfl (rd_move rfl rfl) ?_
        refine GL_rd (wn_none rfl) rfl (rd_bin rfl rfl rfl (bo_add64 (by omega))) ?_
        refine GL_rd (v := .int _ _) (wn_none rfl) rfl (rd_assign rfl rfl) ?_
        refine GL_nil ?_
        have hd : divL (i + 1) (invL 32 (bitsL l ++ List.replicate 32 false)) = (xorL (divL i (invL 32 (bitsL l ++ List.replicate 32 false))) polyL).tail := by rw [divL_succ, divL_one (by omega), hh]; rfl
        rw [pre_next (show 0 < (xorL (divL i (invL 32 (bitsL l ++ List.replicate 32 false))) polyL).length by rw [xorL_length]; omega), ← hd] at hp
        exact ihL1 (i + 1, pre ++ [(xorL (divL i (invL 32 (bitsL l ++ List.replicate 32 false))) polyL).getD 0 false]) _ _ (by simp only []; omega) ⟨_, slots3 rfl rfl rfl, hp, (by omega), (by rw [List.length_append, hpre]; rfl)⟩
      ·refine ⟨_, slots4 rfl rfl rfl rfl, hp, Nat.zero_le _⟩
     ·(try simp only [decide_eq_true_eq, decide_eq_false_iff_not, Bool.not_eq_true', Bool.not_eq_false', Bool.not_eq_eq_eq_not, Bool.not_true, Bool.not_false, Int.not_lt, Int.not_le] at hb3)
      have hh : (divL i (invL 32 (bitsL l ++ List.replicate 32 false))).getD 0 false = false := by cases hq : (divL i (invL 32 (bitsL l ++ List.replicate 32 false))).getD 0 false with | false => rfl | true => exact absurd ((bitU_one _).2 hq) hb3
      refine GW_skip ?_
      refine GW_region ?_
      refine GL_rd (v := .int _ _) (wn_none rfl) rfl (rd_move rfl rfl) ?_
      refine GL_rd (wn_none rfl) rfl (rd_bin rfl rfl rfl (bo_add64 (by omega))) ?_
      refine GL_rd (v := .int _ _) (wn_none rfl) rfl (rd_assign rfl rfl) ?_
      refine GL_nil ?_
      have hd : divL (i + 1) (invL 32 (bitsL l ++ List.replicate 32 false)) = (divL i (invL 32 (bitsL l ++ List.replicate 32 false))).tail := by rw [divL_succ, divL_one (by omega), hh]; rfl
      rw [pre_next (show 0 < (divL i (invL 32 (bitsL l ++ List.replicate 32 false))).length by omega), ← hd] at hp
      exact ihL1 (i + 1, pre ++ [(divL i (invL 32 (bitsL l ++ List.replicate 32 false))).getD 0 false]) _ _ (by simp only []; omega) ⟨_, slots3 rfl rfl rfl, hp, (by omega), (by rw [List.length_append, hpre]; rfl)⟩
    ·(try simp only [decide_eq_true_eq, decide_eq_false_iff_not, Bool.not_eq_true', Bool.not_eq_false', Bool.not_eq_eq_eq_not, Bool.not_true, Bool.not_false, Int.not_lt, Int.not_le] at hb2)
     obtain rfl : i = 8 * m := by omega
     refine GW_exit ?_
     refine GW_seq ?_
     refine GW_region ?_
     refine GL_rd (v := .int _ _) (wn_none rfl) rfl (rd_assign rfl rfl) ?_
     refine GL_nil ?_
     refine GW_seq ?_
     refine GW_region ?_
     refine GL_rd (v := .slice _ _ _) (wn_none rfl) rfl (rd_move rfl rfl) ?_
     refine GL_rd (wn_none rfl) rfl (rd_len rfl rfl Tryz.underlying35) ?_
     refine GL_rd (wn_none rfl) rfl (rd_bin rfl rfl rfl (bo_int (bo_sub64 (by omega)) (by omega : (((8 * m + 32 : Nat) : Int) - 32) = ((8 * m : Nat) : Int)))) ?_
     refine GL_rd (v := .int _ _) (wn_none rfl) rfl (rd_assign rfl rfl) ?_
     refine GL_nil ?_
     refine GW_seq ?_
     refine GW_seq ?_
     refine GW_region ?_
     refine GL_rd (v := .int _ _) (wn_none rfl) rfl (rd_assign rfl rfl) ?_
     refine GL_nil ?_
     refine GW_block ?_
     refine GW_loop ?_
     refine Lp_ind (α := Nat) (fun a_0 f_0 w' => match a_0 with | k => ∃ fz, f_0 = (upd (upd (upd (upd fz 3 (.slice (some ⟨gR, 0, none⟩) (8 * m + 32) cv)) 8 (.int .u32 ((outL (divL (8 * m) (invL 32 (bitsL l ++ List.replicate 32 false))) k).toNat : Int))) 9 (.int .i64 ((8 * m : Nat) : Int))) 10 (.int .i64 (k : Int))) ∧ Hp w0 [] w' [.row 5 1 (.slice (some ⟨g, 0, none⟩) 33 33) 33 (bys (polyL.map bitU)), .row 5 1 (.slice (some ⟨gR, 0, none⟩) (8 * m + 32) cv) (8 * m + 32) (bys ((pre ++ (divL (8 * m) (invL 32 (bitsL l ++ List.replicate 32 false)))).map bitU))] ∧ (k ≤ 32)) (fun a_0 => match a_0 with | k => 32 - k) ?_ 0 _ _ ?_
     ·rintro k f wz ⟨fz, rfl, hp, hk⟩ ihL3
      refine Lp_round ?_
      refine GW_seq ?_
      refine GW_seq ?_
      refine GW_region ?_
      refine GL_rd (v := .int _ _) (wn_none rfl) rfl (rd_move rfl rfl) ?_
      refine GL_rd (wn_none rfl) rfl (rd_bin rfl rfl rfl bo_lss) ?_
      refine GL_nil ?_
      refine GW_cond rfl (fun hb5 => ?_) (fun hb5 => ?_)
      ·(try simp only [decide_eq_true_eq, decide_eq_false_iff_not, Bool.not_eq_true', Bool.not_eq_false', Bool.not_eq_eq_eq_not, Bool.not_true, Bool.not_false, Int.not_lt, Int.not_le] at hb5)
       refine GW_skip ?_
       refine GW_seq ?_
       refine GW_block ?_
       refine GW_region ?_
       refine GL_rd (v := .int _ _) (wn_none rfl) rfl (rd_move rfl rfl) ?_
       refine GL_rd (v := .slice _ _ _) (wn_none rfl) rfl (rd_move rfl rfl) ?_
       refine GL_rd (v := .int _ _) (wn_none rfl) rfl (rd_move rfl rfl) ?_
       refine GL_rd (v := .int _ _) (wn_none rfl) rfl (rd_move rfl rfl) ?_
       refine GL_rd (wn_none rfl) rfl (rd_bin rfl rfl rfl (bo_add64 (by omega))) ?_
       refine GL_rd (wn_none rfl) rfl (rd_indexS (j := (8 * m + k)) rfl rfl rfl Tryz.underlying35 ts5 rfl (by omega) _ rfl) ?_
       refine GL_rd (wn_none rfl) rfl (rd_load rfl rfl Tryz.underlying5 rfl (bit_cell2 (Sl.row (hp.get 1 rfl)) (8 * m) k hpre (by omega))) ?_
       refine GL_rd (wn_none rfl) rfl (rd_bin rfl rfl rfl (bo_flip ((divL (8 * m) (invL 32 (bitsL l ++ List.replicate 32 false))).getD k false))) ?_
       refine GL_rd (wn_none rfl) rfl (rd_conv8 .u32 rfl rfl Tryz.underlying64 Tryz.underlying5 (by simp)) ?_
       refine GL_rd (v := .int _ _) (wn_none rfl) rfl (rd_move rfl rfl) ?_
       refine GL_rd (wn_none rfl) rfl (rd_convE (q := (k : Int)) rfl rfl Tryz.underlying88 Tryz.underlying3 (by simp) (IntWalk.u64_in _ (by omega))) ?_
       refine GL_rd (wn_none rfl) rfl (rd_bin rfl rfl rfl (bo_shlbit (!(divL (8 * m) (invL 32 (bitsL l ++ List.replicate 32 false))).getD k false) k (by omega))) ?_
       refine GL_rd (wn_none rfl) rfl (rd_bin rfl rfl rfl (bo_orbv (outL (divL (8 * m) (invL 32 (bitsL l ++ List.replicate 32 false))) k) (bitB (!(divL (8 * m) (invL 32 (bitsL l ++ List.replicate 32 false))).getD k false) <<< k))) ?_
       refine GL_rd (v := .int _ _) (wn_none rfl) rfl (rd_assign rfl rfl) ?_
       refine GL_nil ?_
       refine GW_region ?_
       refine GL_rd (v := .int _ _) (wn_none rfl) rfl (rd_move rfl rfl) ?_
       refine GL_rd (wn_none rfl) rfl (rd_bin rfl rfl rfl (bo_add64 (by omega))) ?_
       refine GL_rd (v := .int _ _) (wn_none rfl) rfl (rd_assign rfl rfl) ?_
       refine GL_nil ?_
       exact ihL3 (k + 1) _ _ (by simp only []; omega) ⟨_, slots4 rfl rfl rfl rfl, hp, (by omega)⟩
      ·(try simp only [decide_eq_true_eq, decide_eq_false_iff_not, Bool.not_eq_true', Bool.not_eq_false', Bool.not_eq_eq_eq_not, Bool.not_true, Bool.not_false, Int.not_lt, Int.not_le] at hb5)
       refine GW_exit ?_
       refine GW_seq ?_
       refine GW_region ?_
       refine GL_rd (v := .int _ _) (wn_none rfl) rfl (rd_move rfl rfl) ?_
       refine GL_rd (v := .int _ _) (wn_none rfl) rfl (rd_assign rfl rfl) ?_
       refine GL_nil ?_
       refine GW_ret ?_
       obtain rfl : k = 32 := by omega
       exact ⟨_, res1 Tryz.results31 (rv_tmp (v := .int _ _) rfl rfl), by rw [hsum], hp.mods⟩
     ·refine ⟨_, slots4 rfl rfl rfl rfl, hp, Nat.zero_le _⟩
   ·have e0 : divL 0 (invL 32 (bitsL l ++ List.replicate 32 false)) = (invL 32 (bitsL l ++ List.replicate 32 false)) := by cases (invL 32 (bitsL l ++ List.replicate 32 false)) <;> rfl
    refine ⟨_, slots3 rfl rfl rfl, hp, Nat.zero_le _, rfl⟩
 ·refine ⟨_, slots2 rfl rfl, hp, Nat.zero_le _⟩
end Go.Proofs.YtpagpmioopaciaaGreat
