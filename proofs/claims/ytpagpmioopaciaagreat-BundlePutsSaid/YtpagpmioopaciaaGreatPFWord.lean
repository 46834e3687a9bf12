/- Walks of functions of the program. -/
import Derived.Test.YtpagpmioopaciaaGreatPActs
import Derived.Test.YtpagpmioopaciaaGreatPTypes
import Derived.Test.YtpagpmioopaciaaGreatPWordS
set_option linter.unusedVariables false
set_option linter.unusedSimpArgs false
namespace Go.Proofs.YtpagpmioopaciaaGreat
open Go.Mo Go.RowKit
theorem word_Put (n : Nat) (size : Int) (w0 : World) (hn : n < 18446744073709551616) (hs : size ≤ 100000) : Does Tryz.prog 27 #[.int .u64 (n : Int), .int .i64 size] w0 fun v w' => ∃ g, v = .slice (some ⟨g, 0, none⟩) size.toNat size.toNat ∧ Hp w0 [] w' [.row 5 1 v size.toNat (bys (putL n size.toNat))] := by
 obtain ⟨m, hm⟩ : ∃ m : Nat, m = size.toNat := ⟨_, rfl⟩
 rw [← hm]
 refine does_of (l := [.int .u64 (n : Int), .int .i64 size]) Tryz.func27 (by kernel_rfl) rfl Tryz.ntmps27 rfl rfl (by kernel_rfl) ?_
 have hp := Hp.refl w0 []
 refine GW_seq ?_
 refine GW_region ?_
 refine GL_rd (v := .slice _ _ _) (wn_none rfl) rfl (rd_assign rfl rfl) ?_
 refine GL_nil ?_
 refine GW_seq ?_
 refine GW_region ?_
 refine GL_rd (v := .int _ _) (wn_none rfl) rfl (rd_move rfl rfl) ?_
 refine GL_rd (wn_none rfl) rfl (rd_max rfl rfl rfl) ?_
 refine GL_make (m := m) (wn_none rfl) rfl rfl rfl Tryz.underlying35 ti5 rfl (by omega) (by omega) (by omega) hp ?_
 intro g w hp
 refine GL_rd (v := .slice _ _ _) (wn_none rfl) rfl (rd_assign rfl rfl) ?_
 refine GL_nil ?_
 refine GW_seq ?_
 refine GW_seq ?_
 refine GW_region ?_
 refine GL_rd (v := .slice _ _ _) (wn_none rfl) rfl (rd_move rfl rfl) ?_
 refine GL_rd (wn_none rfl) rfl (rd_len rfl rfl Tryz.underlying35) ?_
 refine GL_rd (v := .int _ _) (wn_none rfl) rfl (rd_move rfl rfl) ?_
 refine GL_nil ?_
 refine GW_block ?_
 refine GW_loop ?_
 refine Lp_ind (α := Nat) (fun a_0 f_0 w' => match a_0 with | k => ∃ fz, f_0 = (upd (upd (upd (upd fz 0 (.int .u64 (n : Int))) 5 (.slice (some ⟨g, 0, none⟩) m m)) 11 (.int .i64 (m : Int))) 12 (.int .i64 (k : Int))) ∧ Hp w0 [] w' [.row 5 1 (.slice (some ⟨g, 0, none⟩) m m) m (bys (putL n k ++ List.replicate (m - k) 0))] ∧ (k ≤ m)) (fun a_0 => match a_0 with | k => m - k) ?_ 0 _ _ ?_
 ·rintro k f wz ⟨fz, rfl, hp, hk⟩ ihL0
  refine Lp_round ?_
  refine GW_seq ?_
  refine GW_region ?_
  refine GL_rd (wn_none rfl) rfl (rd_bin rfl rfl rfl bo_lss) ?_
  refine GL_nil ?_
  refine GW_seq ?_
  refine GW_cond rfl (fun hb => ?_) (fun hb => ?_)
  ·(try simp only [decide_eq_true_eq, decide_eq_false_iff_not, Bool.not_eq_true', Bool.not_eq_false', Bool.not_eq_eq_eq_not, Bool.not_true, Bool.not_false, Int.not_lt, Int.not_le] at hb)
   refine GW_skip ?_
   refine GW_seq ?_
   refine GW_block ?_
   refine GW_seq ?_
   refine GW_region ?_
   refine GL_rd (v := .int _ _) (wn_none rfl) rfl (rd_move rfl rfl) ?_
   refine GL_rd (v := .int _ _) (wn_none rfl) rfl (rd_assign rfl rfl) ?_
   refine GL_nil ?_
   refine GW_seq ?_
   refine GW_region ?_
   refine GL_rd (v := .int _ _) (wn_none rfl) rfl (rd_move rfl rfl) ?_
   refine GL_rd (wn_none rfl) rfl (rd_bin rfl rfl rfl bo_lss) ?_
   refine GL_nil ?_
   refine GW_cond rfl (fun hb2 => ?_) (fun hb2 => ?_)
   ·(try simp only [decide_eq_true_eq, decide_eq_false_iff_not, Bool.not_eq_true', Bool.not_eq_false', Bool.not_eq_eq_eq_not, Bool.not_true, Bool.not_false, Int.not_lt, Int.not_le] at hb2)
    refine GW_region ?_
    refine GL_rd (v := .slice _ _ _) (wn_none rfl) rfl (rd_move rfl rfl) ?_
    refine GL_rd (v := .int _ _) (wn_none rfl) rfl (rd_move rfl rfl) ?_
    refine GL_rd (v := .int _ _) (wn_none rfl) rfl (rd_move rfl rfl) ?_
    refine GL_rd (v := .int _ _) (wn_none rfl) rfl (rd_move rfl rfl) ?_
    refine GL_rd (wn_none rfl) rfl (rd_bin rfl rfl rfl (bo_mul64 (by omega))) ?_
    refine GL_rd (wn_none rfl) rfl (rd_bin rfl rfl rfl (bo_shr (by omega) (by omega))) ?_
    refine GL_rd (wn_none rfl) rfl (rd_conv rfl rfl Tryz.underlying5 Tryz.underlying62 (by simp)) ?_
    refine GL_rd (wn_none rfl) rfl (rd_indexS (j := k) rfl rfl rfl Tryz.underlying35 ts5 rfl (by omega) _ rfl) ?_
    refine GL_storeR (i := 0) (wn_none rfl) rfl rfl rfl rfl ts5 rfl rfl (one1 rfl) hp rfl rfl (by simp [bys_length, putL_length]; omega) (put_small n k m (by omega) (by omega)) ?_
    intro w hp
    refine GL_nil ?_
    refine GW_region ?_
    refine GL_rd (wn_none rfl) rfl (rd_bin rfl rfl rfl (bo_add64 (by omega))) ?_
    refine GL_rd (v := .int _ _) (wn_none rfl) rfl (rd_move rfl rfl) ?_
    refine GL_nil ?_
    exact ihL0 (k + 1) _ _ (by simp only []; omega) ⟨_, slots4 rfl rfl rfl rfl, hp, (by omega)⟩
   ·(try simp only [decide_eq_true_eq, decide_eq_false_iff_not, Bool.not_eq_true', Bool.not_eq_false', Bool.not_eq_eq_eq_not, Bool.not_true, Bool.not_false, Int.not_lt, Int.not_le] at hb2)
    rw [put_large n k m hn (by omega) (by omega)] at hp
    refine GW_skip ?_
    refine GW_region ?_
    refine GL_rd (wn_none rfl) rfl (rd_bin rfl rfl rfl (bo_add64 (by omega))) ?_
    refine GL_rd (v := .int _ _) (wn_none rfl) rfl (rd_move rfl rfl) ?_
    refine GL_nil ?_
    exact ihL0 (k + 1) _ _ (by simp only []; omega) ⟨_, slots4 rfl rfl rfl rfl, hp, (by omega)⟩
  ·(try simp only [decide_eq_true_eq, decide_eq_false_iff_not, Bool.not_eq_true', Bool.not_eq_false', Bool.not_eq_eq_eq_not, Bool.not_true, Bool.not_false, Int.not_lt, Int.not_le] at hb)
   obtain rfl : k = m := by omega
   rw [Nat.sub_self, List.replicate_zero, List.append_nil] at hp
   refine GW_exit ?_
   refine GW_seq ?_
   refine GW_region ?_
   refine GL_rd (v := .slice _ _ _) (wn_none rfl) rfl (rd_move rfl rfl) ?_
   refine GL_rd (v := .slice _ _ _) (wn_none rfl) rfl (rd_assign rfl rfl) ?_
   refine GL_nil ?_
   refine GW_ret ?_
   exact ⟨_, res1 Tryz.results27 (rv_tmp (v := .slice _ _ _) rfl rfl), g, rfl, hp⟩
 ·rw [show List.replicate m (Value.int .u8 0) = bys (putL n 0 ++ List.replicate (m - 0) 0) from (bys_replicate m 0).symm] at hp
  refine ⟨_, slots4 rfl rfl rfl rfl, hp, Nat.zero_le _⟩
theorem ref_Put : ∀ (k : Nat) (n : Nat) (size : Int) (w0 : World) (hn : n < 18446744073709551616) (hs : size ≤ 100000) (hkk : size.toNat = k), Does Tryz.prog 30 #[.int .u64 (n : Int), .int .i64 size] w0 fun v w' => Hp w0 [] w' [.row 5 1 v k (bys (putL n k))] := by
 intro k
 induction k using Nat.strongRecOn with
 | _ k ih =>
  intro n size w0 hn hs hkk
  refine does_of (l := [.int .u64 (n : Int), .int .i64 size]) Tryz.func30 (by kernel_rfl) rfl Tryz.ntmps30 rfl rfl (by kernel_rfl) ?_
  have hp := Hp.refl w0 []
  refine GW_seq ?_
  refine GW_region ?_
  refine GL_rd (v := .slice _ _ _) (wn_none rfl) rfl (rd_assign rfl rfl) ?_
  refine GL_nil ?_
  refine GW_seq ?_
  refine GW_seq ?_
  refine GW_region ?_
  refine GL_rd (v := .int _ _) (wn_none rfl) rfl (rd_move rfl rfl) ?_
  refine GL_rd (wn_none rfl) rfl (rd_bin rfl rfl rfl bo_leq) ?_
  refine GL_nil ?_
  refine GW_cond rfl (fun hb => ?_) (fun hb => ?_)
  ·(try simp only [decide_eq_true_eq, decide_eq_false_iff_not, Bool.not_eq_true', Bool.not_eq_false', Bool.not_eq_eq_eq_not, Bool.not_true, Bool.not_false, Int.not_lt, Int.not_le] at hb)
   obtain rfl : k = 0 := by omega
   refine GW_seq ?_
   refine GW_region ?_
   refine GL_rd (v := .slice _ _ _) (wn_none rfl) rfl (rd_assign rfl rfl) ?_
   refine GL_nil ?_
   refine GW_ret ?_
   exact ⟨_, res1 Tryz.results30 (rv_tmp (v := .slice _ _ _) rfl rfl), hp.nilRow _ _⟩
  ·(try simp only [decide_eq_true_eq, decide_eq_false_iff_not, Bool.not_eq_true', Bool.not_eq_false', Bool.not_eq_eq_eq_not, Bool.not_true, Bool.not_false, Int.not_lt, Int.not_le] at hb)
   obtain ⟨j, rfl⟩ : ∃ j, k = j + 1 := ⟨k - 1, by omega⟩
   refine GW_skip ?_
   refine GW_seq ?_
   refine GW_region ?_
   refine GL_rd (v := .int _ _) (wn_none rfl) rfl (rd_move rfl rfl) ?_
   refine GL_rd (wn_none rfl) rfl (rd_bin rfl rfl rfl (bo_rem64 (by omega) (by omega))) ?_
   refine GL_rd (wn_none rfl) rfl (rd_conv rfl rfl Tryz.underlying5 Tryz.underlying62 (by simp)) ?_
   refine GL_lit (L := [.int .u8 (IntKind.u8.wrap ((n : Int) % 256))]) (wn_none rfl) rfl rfl Tryz.underlying35 ts5 tz5 rfl (by kernel_rfl) rfl rfl hp ?_
   intro g w hp
   refine GL_rd (v := .slice _ _ _) (wn_none rfl) rfl (rd_assign rfl rfl) ?_
   refine GL_nil ?_
   refine GW_seq ?_
   refine GW_region ?_
   refine GL_rd (v := .slice _ _ _) (wn_none rfl) rfl (rd_move rfl rfl) ?_
   refine GL_rd (v := .int _ _) (wn_none rfl) rfl (rd_move rfl rfl) ?_
   refine GL_rd (wn_none rfl) rfl (rd_bin rfl rfl rfl (bo_quoU (by omega) (by omega) (by omega))) ?_
   refine GL_rd (v := .int _ _) (wn_none rfl) rfl (rd_move rfl rfl) ?_
   refine GL_rd (wn_none rfl) rfl (rd_bin rfl rfl rfl (bo_sub64 (by omega))) ?_
   refine GL_call (wn_none rfl) rfl rfl (ih j (by omega) (n / 256) (size - 1) _ (by omega) (by omega) (by omega)) rfl ?_
   intro v2 w hk
   have hp := hp.comp hk
   refine GL_append (i := 1) (wn_none rfl) rfl rfl rfl rfl Tryz.underlying35 ti5 rfl (by decide) hp rfl (Sl.row (hp.get 0 rfl)) (bys_one _) (by omega) (by omega) ?_
   intro v w hp
   refine GL_rd (v := v) (wn_none rfl) rfl (rd_assign rfl rfl) ?_
   refine GL_nil ?_
   refine GW_ret ?_
   refine ⟨_, res1 Tryz.results30 (rv_tmp (v := v) rfl rfl), ?_⟩
   have hp := hp.drop 1
   exact hp.cast (by rw [put_head, Nat.add_comm 1 j]; rfl)
theorem ref_Same (sv tv : Value) (m k : Nat) (a b : List UInt8) (w0 : World) (hs : Sl w0 sv 1 m (bys a)) (ht : Sl w0 tv 1 k (bys b)) : Does Tryz.prog 15 #[sv, tv] w0 fun v w' => v = .bool (decide (a = b)) ∧ Hp w0 [] w' [] := by
 refine does_of (l := [sv, tv]) Tryz.func15 (by kernel_rfl) rfl Tryz.ntmps15 rfl rfl (by kernel_rfl) ?_
 have hp := Hp.refl w0 []
 refine GW_seq ?_
 refine GW_region ?_
 refine GL_rd (v := .bool _) (wn_none rfl) rfl (rd_assign rfl rfl) ?_
 refine GL_nil ?_
 refine GW_seq ?_
 refine GW_region ?_
 refine GL_rd (v := sv) (wn_none rfl) rfl (rd_move rfl rfl) ?_
 refine GL_rd (wn_none rfl) rfl (rd_toStr rfl rfl Tryz.underlying35 Tryz.underlying9 Tryz.underlying5 (hs.keep hp.mod)) ?_
 refine GL_rd (v := tv) (wn_none rfl) rfl (rd_move rfl rfl) ?_
 refine GL_rd (wn_none rfl) rfl (rd_toStr rfl rfl Tryz.underlying35 Tryz.underlying9 Tryz.underlying5 (ht.keep hp.mod)) ?_
 refine GL_rd (wn_none rfl) rfl (rd_bin rfl rfl rfl bo_seql) ?_
 refine GL_rd (v := .bool _) (wn_none rfl) rfl (rd_assign rfl rfl) ?_
 refine GL_nil ?_
 refine GW_ret ?_
 exact ⟨_, res1 Tryz.results15 (rv_tmp (v := .bool _) rfl rfl), by rw [bytes_eq], hp⟩
theorem word_Get (sv : Value) (m : Nat) (l : List UInt8) (w0 : World) (hs : Sl w0 sv 1 m (bys l)) : Does Tryz.prog 72 #[sv] w0 fun v w' => v = .int .u64 (getL (l.take 8) : Int) ∧ Hp w0 [] w' [] := by
 obtain ⟨A, c, rfl⟩ := sl_shape hs
 have hml := hs.blen
 have hmle := hs.le
 refine does_of (l := [.slice A m c]) Tryz.func72 (by kernel_rfl) rfl Tryz.ntmps72 rfl rfl (by kernel_rfl) ?_
 have hp := Hp.refl w0 []
 obtain ⟨q, hq, hq8, hql⟩ : ∃ q : Nat, (q : Int) = min (m : Int) 8 ∧ q ≤ 8 ∧ q ≤ m := ⟨min m 8, by omega, by omega, by omega⟩
 have hqt : q = (l.take 8).length := by rw [List.length_take]; omega
 refine GW_seq ?_
 refine GW_region ?_
 refine GL_rd (v := .int _ _) (wn_none rfl) rfl (rd_assign rfl rfl) ?_
 refine GL_nil ?_
 refine GW_seq ?_
 refine GW_region ?_
 refine GL_rd (v := .int _ _) (wn_none rfl) rfl (rd_assign rfl rfl) ?_
 refine GL_nil ?_
 refine GW_seq ?_
 refine GW_seq ?_
 refine GW_region ?_
 refine GL_rd (v := .slice _ _ _) (wn_none rfl) rfl (rd_move rfl rfl) ?_
 refine GL_rd (wn_none rfl) rfl (rd_len rfl rfl Tryz.underlying35) ?_
 refine GL_rd (wn_none rfl) rfl (rd_min rfl rfl rfl) ?_
 refine GL_rd (wn_none rfl) rfl (rd_bin rfl rfl rfl (bo_sub64 (by omega))) ?_
 refine GL_rd (v := .int _ _) (wn_none rfl) rfl (rd_assign rfl rfl) ?_
 refine GL_nil ?_
 refine GW_block ?_
 refine GW_loop ?_
 refine Lp_ind (α := Nat) (fun a_0 f_0 w' => match a_0 with | k => ∃ fz, f_0 = (upd (upd (upd fz 0 (.slice A m c)) 3 (.int .u64 (getL ((l.take 8).drop k) : Int))) 4 (.int .i64 ((k : Int) - 1))) ∧ Hp w0 [] w' [] ∧ (k ≤ q)) (fun a_0 => match a_0 with | k => k) ?_ q _ _ ?_
 ·rintro k f wz ⟨fz, rfl, hp, hkq⟩ ihL0
  refine Lp_round ?_
  refine GW_seq ?_
  refine GW_seq ?_
  refine GW_region ?_
  refine GL_rd (v := .int _ _) (wn_none rfl) rfl (rd_move rfl rfl) ?_
  refine GL_rd (wn_none rfl) rfl (rd_bin rfl rfl rfl bo_geq) ?_
  refine GL_nil ?_
  refine GW_cond rfl (fun hb => ?_) (fun hb => ?_)
  ·(try simp only [decide_eq_true_eq, decide_eq_false_iff_not, Bool.not_eq_true', Bool.not_eq_false', Bool.not_eq_eq_eq_not, Bool.not_true, Bool.not_false, Int.not_lt, Int.not_le] at hb)
   obtain ⟨j, rfl⟩ : ∃ j, k = j + 1 := ⟨k - 1, by omega⟩
   have hgl := getL_lt ((l.take 8).drop (j + 1))
   refine GW_skip ?_
   refine GW_seq ?_
   refine GW_block ?_
   refine GW_region ?_
   refine GL_rd (v := .int _ _) (wn_none rfl) rfl (rd_move rfl rfl) ?_
   refine GL_rd (wn_none rfl) rfl (rd_bin rfl rfl rfl (bo_shl (by decide))) ?_
   refine GL_rd (v := .slice _ _ _) (wn_none rfl) rfl (rd_move rfl rfl) ?_
   refine GL_rd (v := .int _ _) (wn_none rfl) rfl (rd_move rfl rfl) ?_
   obtain ⟨gA, bA, rfl⟩ := hs.addr (by rw [bys_length]; omega)
   refine GL_rd (wn_none rfl) rfl (rd_indexS (j := j) rfl rfl rfl Tryz.underlying35 ts5 (by omega) (by omega) _ rfl) ?_
   refine GL_rd (wn_none rfl) rfl (rd_load rfl rfl Tryz.underlying5 rfl (Sl.byte (hs.keep hp.mod) j (by omega))) ?_
   refine GL_rd (wn_none rfl) rfl (rd_conv8 .u64 rfl rfl Tryz.underlying62 Tryz.underlying5 (by simp)) ?_
   refine GL_rd (wn_none rfl) rfl (rd_bin rfl rfl rfl (get_or l j (by omega))) ?_
   refine GL_rd (v := .int _ _) (wn_none rfl) rfl (rd_assign rfl rfl) ?_
   refine GL_nil ?_
   refine GW_region ?_
   refine GL_rd (v := .int _ _) (wn_none rfl) rfl (rd_move rfl rfl) ?_
   refine GL_rd (wn_none rfl) rfl (rd_bin rfl rfl rfl (bo_int (bo_sub64 (by omega)) (by omega : ((j + 1 : Nat) : Int) - 1 - 1 = (j : Int) - 1))) ?_
   refine GL_rd (v := .int _ _) (wn_none rfl) rfl (rd_assign rfl rfl) ?_
   refine GL_nil ?_
   exact ihL0 j _ _ (by simp only []; omega) ⟨_, slots3 rfl rfl rfl, hp, (by omega)⟩
  ·(try simp only [decide_eq_true_eq, decide_eq_false_iff_not, Bool.not_eq_true', Bool.not_eq_false', Bool.not_eq_eq_eq_not, Bool.not_true, Bool.not_false, Int.not_lt, Int.not_le] at hb)
   obtain rfl : k = 0 := by omega
   rw [List.drop_zero]
   refine GW_exit ?_
   refine GW_seq ?_
   refine GW_region ?_
   refine GL_rd (v := .int _ _) (wn_none rfl) rfl (rd_move rfl rfl) ?_
   refine GL_rd (v := .int _ _) (wn_none rfl) rfl (rd_assign rfl rfl) ?_
   refine GL_nil ?_
   refine GW_ret ?_
   exact ⟨_, res1 Tryz.results72 (rv_tmp (v := .int _ _) rfl rfl), rfl, hp⟩
 ·rw [← hq]
  refine ⟨_, slots3 rfl (by rw [hqt, List.drop_length]; rfl) rfl, hp, Nat.le_refl _⟩
theorem word_Pad (s : ByteArray) (size : Int) (w0 : World) (hs : s.size ≤ 140737488351232) : Does Tryz.prog 76 #[.string s, .int .i64 size] w0 fun v w' => ∃ tv, v = .tuple #[tv, .int .i64 (padC s.size size)] ∧ Hp w0 [] w' [.row 5 1 tv (padL s.data.toList size).length (bys (padL s.data.toList size))] := by
 have hsl : s.data.toList.length = s.size := rfl
 obtain ⟨m, hm⟩ : ∃ m : Nat, m = size.toNat := ⟨_, rfl⟩
 refine does_of (l := [.string s, .int .i64 size]) Tryz.func76 (by kernel_rfl) rfl Tryz.ntmps76 rfl rfl (by kernel_rfl) ?_
 have hp := Hp.refl w0 []
 refine GW_seq ?_
 refine GW_region ?_
 refine GL_rd (v := .slice _ _ _) (wn_none rfl) rfl (rd_assign rfl rfl) ?_
 refine GL_rd (v := .int _ _) (wn_none rfl) rfl (rd_assign rfl rfl) ?_
 refine GL_nil ?_
 refine GW_seq ?_
 refine GW_seq ?_
 refine GW_region ?_
 refine GL_rd (v := .int _ _) (wn_none rfl) rfl (rd_move rfl rfl) ?_
 refine GL_rd (wn_none rfl) rfl (rd_bin rfl rfl rfl bo_lss) ?_
 refine GL_rd (v := .bool _) (wn_none rfl) rfl (rd_move rfl rfl) ?_
 refine GL_split (t := 9) (b := _) rfl ?_ ?_
 ·intro hb; (try simp only [decide_eq_true_eq, decide_eq_false_iff_not, Bool.not_eq_true', Bool.not_eq_false', Bool.not_eq_eq_eq_not, Bool.not_true, Bool.not_false, Int.not_lt, Int.not_le] at hb)
  refine GL_pass (nw_off rfl rfl rfl rfl rfl) rfl ?_
  refine GL_pass (nw_off rfl rfl rfl rfl rfl) rfl ?_
  refine GL_rd (v := .bool _) (wn_none rfl) rfl (rd_pickT rfl rfl rfl) ?_
  refine GL_nil ?_
  refine GW_true rfl ?_
  refine GW_seq ?_
  refine GW_region ?_
  refine GL_rd (v := .slice _ _ _) (wn_none rfl) rfl (rd_assign rfl rfl) ?_
  refine GL_rd (v := .int _ _) (wn_none rfl) rfl (rd_assign rfl rfl) ?_
  refine GL_nil ?_
  refine GW_ret ?_
  have e1 : padOk s.data.toList.length size = false := by rw [hsl]; simp only [padOk, decide_eq_false_iff_not]; omega
  have e2 : padC s.size size = 2 := by unfold padC; (repeat' split) <;> omega
  refine ⟨_, res2 Tryz.results76 (rv_tmp (v := .slice _ _ _) rfl rfl) (rv_tmp (v := .int _ _) rfl rfl), .slice none 0 0, by rw [e2], ?_⟩
  rw [padL_no e1]
  exact hp.nilRow _ _
 ·intro hb; (try simp only [decide_eq_true_eq, decide_eq_false_iff_not, Bool.not_eq_true', Bool.not_eq_false', Bool.not_eq_eq_eq_not, Bool.not_true, Bool.not_false, Int.not_lt, Int.not_le] at hb)
  refine GL_rd (v := .int _ _) (wn_on rfl rfl rfl rfl) rfl (rd_move rfl rfl) ?_
  refine GL_rd (wn_on rfl rfl rfl rfl) rfl (rd_bin rfl rfl rfl bo_gtr) ?_
  refine GL_rd (v := .bool _) (wn_none rfl) rfl (rd_pickF rfl rfl rfl) ?_
  refine GL_nil ?_
  refine GW_cond rfl (fun hb2 => ?_) (fun hb2 => ?_)
  ·(try simp only [decide_eq_true_eq, decide_eq_false_iff_not, Bool.not_eq_true', Bool.not_eq_false', Bool.not_eq_eq_eq_not, Bool.not_true, Bool.not_false, Int.not_lt, Int.not_le] at hb2)
   refine GW_seq ?_
   refine GW_region ?_
   refine GL_rd (v := .slice _ _ _) (wn_none rfl) rfl (rd_assign rfl rfl) ?_
   refine GL_rd (v := .int _ _) (wn_none rfl) rfl (rd_assign rfl rfl) ?_
   refine GL_nil ?_
   refine GW_ret ?_
   have e1 : padOk s.data.toList.length size = false := by rw [hsl]; simp only [padOk, decide_eq_false_iff_not]; omega
   have e2 : padC s.size size = 2 := by unfold padC; (repeat' split) <;> omega
   refine ⟨_, res2 Tryz.results76 (rv_tmp (v := .slice _ _ _) rfl rfl) (rv_tmp (v := .int _ _) rfl rfl), .slice none 0 0, by rw [e2], ?_⟩
   rw [padL_no e1]
   exact hp.nilRow _ _
  ·(try simp only [decide_eq_true_eq, decide_eq_false_iff_not, Bool.not_eq_true', Bool.not_eq_false', Bool.not_eq_eq_eq_not, Bool.not_true, Bool.not_false, Int.not_lt, Int.not_le] at hb2)
   refine GW_skip ?_
   refine GW_seq ?_
   refine GW_seq ?_
   refine GW_region ?_
   refine GL_rd (v := .string _) (wn_none rfl) rfl (rd_move rfl rfl) ?_
   refine GL_rd (wn_none rfl) rfl (rd_lenS rfl rfl Tryz.underlying9) ?_
   refine GL_rd (v := .int _ _) (wn_none rfl) rfl (rd_move rfl rfl) ?_
   refine GL_rd (wn_none rfl) rfl (rd_bin rfl rfl rfl (bo_sub64 (by omega))) ?_
   refine GL_rd (wn_none rfl) rfl (rd_bin rfl rfl rfl bo_gtr) ?_
   refine GL_nil ?_
   refine GW_cond rfl (fun hb3 => ?_) (fun hb3 => ?_)
   ·(try simp only [decide_eq_true_eq, decide_eq_false_iff_not, Bool.not_eq_true', Bool.not_eq_false', Bool.not_eq_eq_eq_not, Bool.not_true, Bool.not_false, Int.not_lt, Int.not_le] at hb3)
    refine GW_seq ?_
    refine GW_region ?_
    refine GL_rd (v := .slice _ _ _) (wn_none rfl) rfl (rd_assign rfl rfl) ?_
    refine GL_rd (v := .int _ _) (wn_none rfl) rfl (rd_assign rfl rfl) ?_
    refine GL_nil ?_
    refine GW_ret ?_
    have e1 : padOk s.data.toList.length size = false := by rw [hsl]; simp only [padOk, decide_eq_false_iff_not]; omega
    have e2 : padC s.size size = 15 := by unfold padC; (repeat' split) <;> omega
    refine ⟨_, res2 Tryz.results76 (rv_tmp (v := .slice _ _ _) rfl rfl) (rv_tmp (v := .int _ _) rfl rfl), .slice none 0 0, by rw [e2], ?_⟩
    rw [padL_no e1]
    exact hp.nilRow _ _
   ·(try simp only [decide_eq_true_eq, decide_eq_false_iff_not, Bool.not_eq_true', Bool.not_eq_false', Bool.not_eq_eq_eq_not, Bool.not_true, Bool.not_false, Int.not_lt, Int.not_le] at hb3)
    refine GW_skip ?_
    refine GW_seq ?_
    refine GW_region ?_
    refine GL_rd (v := .int _ _) (wn_none rfl) rfl (rd_move rfl rfl) ?_
    refine GL_make (m := m) (wn_none rfl) rfl rfl rfl Tryz.underlying35 ti5 rfl (by omega) (by omega) (by omega) hp ?_
    intro g w hp
    refine GL_rd (v := .slice _ _ _) (wn_none rfl) rfl (rd_assign rfl rfl) ?_
    refine GL_nil ?_
    refine GW_seq ?_
    refine GW_region ?_
    refine GL_rd (v := .slice _ _ _) (wn_none rfl) rfl (rd_move rfl rfl) ?_
    refine GL_rd (v := .string _) (wn_none rfl) rfl (rd_move rfl rfl) ?_
    refine GL_rd (wn_none rfl) rfl (rd_lenS rfl rfl Tryz.underlying9) ?_
    refine GL_rd (wn_none rfl) rfl (rd_conv rfl rfl Tryz.underlying5 Tryz.underlying3 (by simp)) ?_
    refine GL_rd (wn_none rfl) rfl (rd_indexS (j := 0) rfl rfl rfl Tryz.underlying35 ts5 rfl (by omega) _ rfl) ?_
    refine GL_storeR (i := 0) (wn_none rfl) rfl rfl rfl rfl ts5 rfl rfl (one1 rfl) hp rfl rfl (by rw [List.length_replicate]; omega) (pad_first s.size m (by omega)) ?_
    intro w hp
    refine GL_nil ?_
    refine GW_seq ?_
    refine GW_region ?_
    refine GL_rd (v := .slice _ _ _) (wn_none rfl) rfl (rd_move rfl rfl) ?_
    refine GL_rd (wn_none rfl) rfl (rd_sliceR (lo := 1) (hi := m) rfl rfl Tryz.underlying35 ts5 (at_some rfl rfl) to_none (by omega) (by omega) _ rfl) ?_
    refine GL_rd (v := .string _) (wn_none rfl) rfl (rd_move rfl rfl) ?_
    refine GL_copyS (i := 0) (wn_none rfl) rfl rfl rfl rfl Tryz.underlying35 ts5 hp rfl rfl (by omega) rfl (by simp only [bys_length, List.length_cons, List.length_replicate]; split <;> omega) (pad_copy _ _ m (by omega)) ?_
    intro w hp
    refine GL_nil ?_
    refine GW_seq ?_
    refine GW_region ?_
    refine GL_rd (v := .slice _ _ _) (wn_none rfl) rfl (rd_move rfl rfl) ?_
    refine GL_rd (v := .slice _ _ _) (wn_none rfl) rfl (rd_assign rfl rfl) ?_
    refine GL_rd (v := .int _ _) (wn_none rfl) rfl (rd_assign rfl rfl) ?_
    refine GL_nil ?_
    refine GW_ret ?_
    have e1 : padOk s.data.toList.length size = true := by rw [hsl]; simp only [padOk, decide_eq_true_eq]; omega
    have e2 : padC s.size size = 0 := by unfold padC; (repeat' split) <;> omega
    have e3 := padL_length _ _ e1
    refine ⟨_, res2 Tryz.results76 (rv_tmp (v := .slice _ _ _) rfl rfl) (rv_tmp (v := .int _ _) rfl rfl), _, by rw [e2], ?_⟩
    rw [e3, padL_yes e1]
    rw [← hm]
    exact hp
theorem ref_Pad (s : ByteArray) (size : Int) (w0 : World) (hs : s.size ≤ 140737488351232) : Does Tryz.prog 80 #[.string s, .int .i64 size] w0 fun v w' => ∃ tv, v = .tuple #[tv, .int .i64 (padC s.size size)] ∧ Hp w0 [] w' [.row 5 1 tv (padL s.data.toList size).length (bys (padL s.data.toList size))] := by
 have hsl : s.data.toList.length = s.size := rfl
 obtain ⟨m, hm⟩ : ∃ m : Nat, m = size.toNat := ⟨_, rfl⟩
 refine does_of (l := [.string s, .int .i64 size]) Tryz.func80 (by kernel_rfl) rfl Tryz.ntmps80 rfl rfl (by kernel_rfl) ?_
 have hp := Hp.refl w0 []
 refine GW_seq ?_
 refine GW_region ?_
 refine GL_rd (v := .slice _ _ _) (wn_none rfl) rfl (rd_assign rfl rfl) ?_
 refine GL_rd (v := .int _ _) (wn_none rfl) rfl (rd_assign rfl rfl) ?_
 refine GL_nil ?_
 refine GW_seq ?_
 refine GW_seq ?_
 refine GW_region ?_
 refine GL_rd (v := .int _ _) (wn_none rfl) rfl (rd_move rfl rfl) ?_
 refine GL_rd (wn_none rfl) rfl (rd_bin rfl rfl rfl bo_lss) ?_
 refine GL_rd (v := .bool _) (wn_none rfl) rfl (rd_move rfl rfl) ?_
 refine GL_split (t := 9) (b := _) rfl ?_ ?_
 ·intro hb; (try simp only [decide_eq_true_eq, decide_eq_false_iff_not, Bool.not_eq_true', Bool.not_eq_false', Bool.not_eq_eq_eq_not, Bool.not_true, Bool.not_false, Int.not_lt, Int.not_le] at hb)
  refine GL_pass (nw_off rfl rfl rfl rfl rfl) rfl ?_
  refine GL_pass (nw_off rfl rfl rfl rfl rfl) rfl ?_
  refine GL_rd (v := .bool _) (wn_none rfl) rfl (rd_pickT rfl rfl rfl) ?_
  refine GL_nil ?_
  refine GW_true rfl ?_
  refine GW_seq ?_
  refine GW_region ?_
  refine GL_rd (v := .slice _ _ _) (wn_none rfl) rfl (rd_assign rfl rfl) ?_
  refine GL_rd (v := .int _ _) (wn_none rfl) rfl (rd_assign rfl rfl) ?_
  refine GL_nil ?_
  refine GW_ret ?_
  have e1 : padOk s.data.toList.length size = false := by rw [hsl]; simp only [padOk, decide_eq_false_iff_not]; omega
  have e2 : padC s.size size = 2 := by unfold padC; (repeat' split) <;> omega
  refine ⟨_, res2 Tryz.results80 (rv_tmp (v := .slice _ _ _) rfl rfl) (rv_tmp (v := .int _ _) rfl rfl), .slice none 0 0, by rw [e2], ?_⟩
  rw [padL_no e1]
  exact hp.nilRow _ _
 ·intro hb; (try simp only [decide_eq_true_eq, decide_eq_false_iff_not, Bool.not_eq_true', Bool.not_eq_false', Bool.not_eq_eq_eq_not, Bool.not_true, Bool.not_false, Int.not_lt, Int.not_le] at hb)
  refine GL_rd (v := .int _ _) (wn_on rfl rfl rfl rfl) rfl (rd_move rfl rfl) ?_
  refine GL_rd (wn_on rfl rfl rfl rfl) rfl (rd_bin rfl rfl rfl bo_gtr) ?_
  refine GL_rd (v := .bool _) (wn_none rfl) rfl (rd_pickF rfl rfl rfl) ?_
  refine GL_nil ?_
  refine GW_cond rfl (fun hb2 => ?_) (fun hb2 => ?_)
  ·(try simp only [decide_eq_true_eq, decide_eq_false_iff_not, Bool.not_eq_true', Bool.not_eq_false', Bool.not_eq_eq_eq_not, Bool.not_true, Bool.not_false, Int.not_lt, Int.not_le] at hb2)
   refine GW_seq ?_
   refine GW_region ?_
   refine GL_rd (v := .slice _ _ _) (wn_none rfl) rfl (rd_assign rfl rfl) ?_
   refine GL_rd (v := .int _ _) (wn_none rfl) rfl (rd_assign rfl rfl) ?_
   refine GL_nil ?_
   refine GW_ret ?_
   have e1 : padOk s.data.toList.length size = false := by rw [hsl]; simp only [padOk, decide_eq_false_iff_not]; omega
   have e2 : padC s.size size = 2 := by unfold padC; (repeat' split) <;> omega
   refine ⟨_, res2 Tryz.results80 (rv_tmp (v := .slice _ _ _) rfl rfl) (rv_tmp (v := .int _ _) rfl rfl), .slice none 0 0, by rw [e2], ?_⟩
   rw [padL_no e1]
   exact hp.nilRow _ _
  ·(try simp only [decide_eq_true_eq, decide_eq_false_iff_not, Bool.not_eq_true', Bool.not_eq_false', Bool.not_eq_eq_eq_not, Bool.not_true, Bool.not_false, Int.not_lt, Int.not_le] at hb2)
   refine GW_skip ?_
   refine GW_seq ?_
   refine GW_seq ?_
   refine GW_region ?_
   refine GL_rd (v := .string _) (wn_none rfl) rfl (rd_move rfl rfl) ?_
   refine GL_rd (wn_none rfl) rfl (rd_lenS rfl rfl Tryz.underlying9) ?_
   refine GL_rd (v := .int _ _) (wn_none rfl) rfl (rd_move rfl rfl) ?_
   refine GL_rd (wn_none rfl) rfl (rd_bin rfl rfl rfl (bo_sub64 (by omega))) ?_
   refine GL_rd (wn_none rfl) rfl (rd_bin rfl rfl rfl bo_gtr) ?_
   refine GL_nil ?_
   refine GW_cond rfl (fun hb3 => ?_) (fun hb3 => ?_)
   ·(try simp only [decide_eq_true_eq, decide_eq_false_iff_not, Bool.not_eq_true', Bool.not_eq_false', Bool.not_eq_eq_eq_not, Bool.not_true, Bool.not_false, Int.not_lt, Int.not_le] at hb3)
    refine GW_seq ?_
    refine GW_region ?_
    refine GL_rd (v := .slice _ _ _) (wn_none rfl) rfl (rd_assign rfl rfl) ?_
    refine GL_rd (v := .int _ _) (wn_none rfl) rfl (rd_assign rfl rfl) ?_
    refine GL_nil ?_
    refine GW_ret ?_
    have e1 : padOk s.data.toList.length size = false := by rw [hsl]; simp only [padOk, decide_eq_false_iff_not]; omega
    have e2 : padC s.size size = 15 := by unfold padC; (repeat' split) <;> omega
    refine ⟨_, res2 Tryz.results80 (rv_tmp (v := .slice _ _ _) rfl rfl) (rv_tmp (v := .int _ _) rfl rfl), .slice none 0 0, by rw [e2], ?_⟩
    rw [padL_no e1]
    exact hp.nilRow _ _
   ·(try simp only [decide_eq_true_eq, decide_eq_false_iff_not, Bool.not_eq_true', Bool.not_eq_false', Bool.not_eq_eq_eq_not, Bool.not_true, Bool.not_false, Int.not_lt, Int.not_le] at hb3)
    refine GW_skip ?_
    refine GW_seq ?_
    refine GW_region ?_
    refine GL_rd (v := .string _) (wn_none rfl) rfl (rd_move rfl rfl) ?_
    refine GL_rd (wn_none rfl) rfl (rd_lenS rfl rfl Tryz.underlying9) ?_
    refine GL_rd (wn_none rfl) rfl (rd_conv rfl rfl Tryz.underlying5 Tryz.underlying3 (by simp)) ?_
    refine GL_lit (L := [.int .u8 (IntKind.u8.wrap (s.size : Int))]) (wn_none rfl) rfl rfl Tryz.underlying35 ts5 tz5 rfl (by kernel_rfl) rfl rfl hp ?_
    intro g w hp
    refine GL_rd (v := .slice _ _ _) (wn_none rfl) rfl (rd_assign rfl rfl) ?_
    refine GL_nil ?_
    refine GW_seq ?_
    refine GW_region ?_
    refine GL_rd (v := .slice _ _ _) (wn_none rfl) rfl (rd_move rfl rfl) ?_
    refine GL_rd (v := .string _) (wn_none rfl) rfl (rd_move rfl rfl) ?_
    rw [show [Value.int .u8 (IntKind.u8.wrap (s.size : Int))] = bys [UInt8.ofNat s.size] from by rw [u8_wrap]; rfl] at hp
    refine GL_appendS (i := 0) (wn_none rfl) rfl rfl rfl rfl Tryz.underlying35 Tryz.underlying9 ti5 hp rfl (by omega) ?_
    intro v w hp
    obtain ⟨Av, cv, rfl⟩ := row_shape (hp.get 0 rfl)
    refine GL_rd (v := .slice _ _ _) (wn_none rfl) rfl (rd_assign rfl rfl) ?_
    refine GL_nil ?_
    refine GW_seq ?_
    refine GW_block ?_
    refine GW_loop ?_
    refine Lp_ind (α := Nat × Option Addr × Nat) (fun a_0 f_0 w' => match a_0 with | (k, A, c) => ∃ fz, f_0 = (upd (upd fz 1 (.int .i64 size)) 6 (.slice A k c)) ∧ Hp w0 [] w' [.row 5 1 (.slice A k c) k (bys (UInt8.ofNat s.size :: (s.data.toList ++ List.replicate (k - 1 - s.size) 0)))] ∧ (1 + s.size ≤ k) ∧ (k ≤ m)) (fun a_0 => match a_0 with | (k, A, c) => m - k) ?_ (1 + s.size, Av, cv) _ _ ?_
    ·rintro ⟨k, A, c⟩ f wz ⟨fz, rfl, hp, hk, hkm⟩ ihL0
     refine Lp_round ?_
     refine GW_seq ?_
     refine GW_seq ?_
     refine GW_region ?_
     refine GL_rd (v := .slice _ _ _) (wn_none rfl) rfl (rd_move rfl rfl) ?_
     refine GL_rd (wn_none rfl) rfl (rd_len rfl rfl Tryz.underlying35) ?_
     refine GL_rd (v := .int _ _) (wn_none rfl) rfl (rd_move rfl rfl) ?_
     refine GL_rd (wn_none rfl) rfl (rd_bin rfl rfl rfl bo_lss) ?_
     refine GL_nil ?_
     refine GW_cond rfl (fun hb4 => ?_) (fun hb4 => ?_)
     ·(try simp only [decide_eq_true_eq, decide_eq_false_iff_not, Bool.not_eq_true', Bool.not_eq_false', Bool.not_eq_eq_eq_not, Bool.not_true, Bool.not_false, Int.not_lt, Int.not_le] at hb4)
      refine GW_skip ?_
      refine GW_block ?_
      refine GW_region ?_
      refine GL_rd (v := .slice _ _ _) (wn_none rfl) rfl (rd_move rfl rfl) ?_
      refine GL_lit (L := [.int .u8 0]) (wn_none rfl) rfl rfl Tryz.underlying35 ts5 tz5 rfl (by kernel_rfl) rfl rfl hp ?_
      intro g2 w hp
      refine GL_append (i := 1) (wn_none rfl) rfl rfl rfl rfl Tryz.underlying35 ti5 rfl (by decide) hp rfl (Sl.row (hp.get 0 rfl)) (one1 rfl) (by omega) (by omega) ?_
      intro v2 w hp
      obtain ⟨Av2, cv2, rfl⟩ := row_shape (hp.get 1 rfl)
      refine GL_rd (v := .slice _ _ _) (wn_none rfl) rfl (rd_assign rfl rfl) ?_
      refine GL_nil ?_
      have hp := hp.drop 1
      have hpm := pad_more (UInt8.ofNat s.size) s.data.toList k hk
      rw [hsl] at hpm
      rw [hpm] at hp
      exact ihL0 (k + 1, Av2, cv2) _ _ (by simp only []; omega) ⟨_, slots2 rfl rfl, hp, by omega, by omega⟩
     ·(try simp only [decide_eq_true_eq, decide_eq_false_iff_not, Bool.not_eq_true', Bool.not_eq_false', Bool.not_eq_eq_eq_not, Bool.not_true, Bool.not_false, Int.not_lt, Int.not_le] at hb4)
      refine GW_exit ?_
      refine GW_seq ?_
      refine GW_region ?_
      refine GL_rd (v := .slice _ _ _) (wn_none rfl) rfl (rd_move rfl rfl) ?_
      refine GL_rd (v := .slice _ _ _) (wn_none rfl) rfl (rd_assign rfl rfl) ?_
      refine GL_rd (v := .int _ _) (wn_none rfl) rfl (rd_assign rfl rfl) ?_
      refine GL_nil ?_
      refine GW_ret ?_
      have e1 : padOk s.data.toList.length size = true := by rw [hsl]; simp only [padOk, decide_eq_true_eq]; omega
      have e2 : padC s.size size = 0 := by unfold padC; (repeat' split) <;> omega
      have e3 := padL_length _ _ e1
      refine ⟨_, res2 Tryz.results80 (rv_tmp (v := .slice _ _ _) rfl rfl) (rv_tmp (v := .int _ _) rfl rfl), _, by rw [e2], ?_⟩
      rw [e3, padL_yes e1]
      obtain rfl : k = size.toNat := by omega
      rw [hsl]
      exact hp
    ·rw [show [UInt8.ofNat s.size] ++ s.data.toList = UInt8.ofNat s.size :: (s.data.toList ++ List.replicate (1 + s.size - 1 - s.size) 0) from by rw [show 1 + s.size - 1 - s.size = 0 by omega]; simp] at hp
     refine ⟨_, slots2 rfl rfl, hp, Nat.le_refl _, by omega⟩
theorem word_Unpad (sv : Value) (m : Nat) (l : List UInt8) (w0 : World) (hs : Sl w0 sv 1 m (bys l)) : Does Tryz.prog 109 #[sv] w0 fun v w' => v = .tuple #[.string ⟨(unpadL l).toArray⟩, .int .i64 (unpadC l)] ∧ Hp w0 [] w' [] := by
 obtain ⟨A, c, rfl⟩ := sl_shape hs
 have hml := hs.blen
 have hmle := hs.le
 refine does_of (l := [.slice A m c]) Tryz.func109 (by kernel_rfl) rfl Tryz.ntmps109 rfl rfl (by kernel_rfl) ?_
 have hp := Hp.refl w0 []
 refine GW_seq ?_
 refine GW_region ?_
 refine GL_rd (v := .string _) (wn_none rfl) rfl (rd_assign rfl rfl) ?_
 refine GL_rd (v := .int _ _) (wn_none rfl) rfl (rd_assign rfl rfl) ?_
 refine GL_nil ?_
 refine GW_seq ?_
 refine GW_seq ?_
 refine GW_region ?_
 refine GL_rd (v := .slice _ _ _) (wn_none rfl) rfl (rd_move rfl rfl) ?_
 refine GL_rd (wn_none rfl) rfl (rd_len rfl rfl Tryz.underlying35) ?_
 refine GL_rd (wn_none rfl) rfl (rd_bin rfl rfl rfl bo_lss) ?_
 refine GL_rd (v := .bool _) (wn_none rfl) rfl (rd_move rfl rfl) ?_
 refine GL_split (t := 10) (b := _) rfl ?_ ?_
 ·intro hb; (try simp only [decide_eq_true_eq, decide_eq_false_iff_not, Bool.not_eq_true', Bool.not_eq_false', Bool.not_eq_eq_eq_not, Bool.not_true, Bool.not_false, Int.not_lt, Int.not_le] at hb)
  obtain rfl : l = [] := List.eq_nil_of_length_eq_zero (by omega)
  refine GL_pass (nw_off rfl rfl rfl rfl rfl) rfl ?_
  refine GL_pass (nw_off rfl rfl rfl rfl rfl) rfl ?_
  refine GL_pass (nw_off rfl rfl rfl rfl rfl) rfl ?_
  refine GL_pass (nw_off rfl rfl rfl rfl rfl) rfl ?_
  refine GL_pass (nw_off rfl rfl rfl rfl rfl) rfl ?_
  refine GL_pass (nw_off rfl rfl rfl rfl rfl) rfl ?_
  refine GL_pass (nw_off rfl rfl rfl rfl rfl) rfl ?_
  refine GL_pass (nw_off rfl rfl rfl rfl rfl) rfl ?_
  refine GL_rd (v := .bool _) (wn_none rfl) rfl (rd_pickT rfl rfl rfl) ?_
  refine GL_nil ?_
  refine GW_true rfl ?_
  refine GW_seq ?_
  refine GW_region ?_
  refine GL_rd (v := .string _) (wn_none rfl) rfl (rd_assign rfl rfl) ?_
  refine GL_rd (v := .int _ _) (wn_none rfl) rfl (rd_assign rfl rfl) ?_
  refine GL_nil ?_
  refine GW_ret ?_
  exact ⟨_, res2 Tryz.results109 (rv_tmp (v := .string _) rfl rfl) (rv_tmp (v := .int _ _) rfl rfl), rfl, hp⟩
 ·intro hb; (try simp only [decide_eq_true_eq, decide_eq_false_iff_not, Bool.not_eq_true', Bool.not_eq_false', Bool.not_eq_eq_eq_not, Bool.not_true, Bool.not_false, Int.not_lt, Int.not_le] at hb)
  obtain ⟨b, r, rfl⟩ : ∃ b r, l = b :: r := by cases l with | nil => simp at hml; omega | cons b r => exact ⟨b, r, rfl⟩
  refine GL_rd (v := .slice _ _ _) (wn_on rfl rfl rfl rfl) rfl (rd_move rfl rfl) ?_
  obtain ⟨gA, bA, rfl⟩ := hs.addr (by rw [bys_length]; omega)
  refine GL_rd (wn_on rfl rfl rfl rfl) rfl (rd_indexS (j := 0) rfl rfl rfl Tryz.underlying35 ts5 rfl (by omega) _ rfl) ?_
  refine GL_rd (wn_on rfl rfl rfl rfl) rfl (rd_load rfl rfl Tryz.underlying5 rfl (Sl.byte (hs.keep hp.mod) 0 (by omega))) ?_
  rw [show (b :: r).getD 0 0 = b from rfl]
  refine GL_rd (wn_on rfl rfl rfl rfl) rfl (rd_conv8 .i64 rfl rfl Tryz.underlying3 Tryz.underlying5 (by simp)) ?_
  refine GL_rd (v := .slice _ _ _) (wn_on rfl rfl rfl rfl) rfl (rd_move rfl rfl) ?_
  refine GL_rd (wn_on rfl rfl rfl rfl) rfl (rd_len rfl rfl Tryz.underlying35) ?_
  refine GL_rd (wn_on rfl rfl rfl rfl) rfl (rd_bin rfl rfl rfl (bo_sub64 (by omega))) ?_
  refine GL_rd (wn_on rfl rfl rfl rfl) rfl (rd_bin rfl rfl rfl bo_gtr) ?_
  refine GL_rd (v := .bool _) (wn_none rfl) rfl (rd_pickF rfl rfl rfl) ?_
  refine GL_nil ?_
  refine GW_cond rfl (fun hb2 => ?_) (fun hb2 => ?_)
  ·(try simp only [decide_eq_true_eq, decide_eq_false_iff_not, Bool.not_eq_true', Bool.not_eq_false', Bool.not_eq_eq_eq_not, Bool.not_true, Bool.not_false, Int.not_lt, Int.not_le] at hb2)
   refine GW_seq ?_
   refine GW_region ?_
   refine GL_rd (v := .string _) (wn_none rfl) rfl (rd_assign rfl rfl) ?_
   refine GL_rd (v := .int _ _) (wn_none rfl) rfl (rd_assign rfl rfl) ?_
   refine GL_nil ?_
   refine GW_ret ?_
   have e1 := unpad_long (b := b) (r := r) (by (try simp only [List.length_cons] at hml); omega)
   exact ⟨_, res2 Tryz.results109 (rv_tmp (v := .string _) rfl rfl) (rv_tmp (v := .int _ _) rfl rfl), by rw [e1.1, e1.2], hp⟩
  ·(try simp only [decide_eq_true_eq, decide_eq_false_iff_not, Bool.not_eq_true', Bool.not_eq_false', Bool.not_eq_eq_eq_not, Bool.not_true, Bool.not_false, Int.not_lt, Int.not_le] at hb2)
   simp only [List.length_cons] at hml
   obtain ⟨A2, c2, hA2, hc2, hs2⟩ := hs.subB (1 + b.toNat) m (by omega) (Nat.le_refl _)
   rw [unpad_tail (by simpa using hml)] at hs2
   refine GW_skip ?_
   refine GW_seq ?_
   refine GW_region ?_
   refine GL_rd (v := .slice _ _ _) (wn_none rfl) rfl (rd_move rfl rfl) ?_
   refine GL_rd (wn_none rfl) rfl (rd_indexS (j := 0) rfl rfl rfl Tryz.underlying35 ts5 rfl (by omega) _ rfl) ?_
   refine GL_rd (wn_none rfl) rfl (rd_load rfl rfl Tryz.underlying5 rfl (Sl.byte (hs.keep hp.mod) 0 (by omega))) ?_
   rw [show (b :: r).getD 0 0 = b from rfl]
   refine GL_rd (wn_none rfl) rfl (rd_conv8 .i64 rfl rfl Tryz.underlying3 Tryz.underlying5 (by simp)) ?_
   refine GL_rd (wn_none rfl) rfl (rd_bin rfl rfl rfl (bo_add64 (by omega))) ?_
   refine GL_rd (v := .int _ _) (wn_none rfl) rfl (rd_assign rfl rfl) ?_
   refine GL_nil ?_
   refine GW_seq ?_
   refine GW_seq ?_
   refine GW_region ?_
   refine GL_rd (v := .slice _ _ _) (wn_none rfl) rfl (rd_move rfl rfl) ?_
   refine GL_rd (v := .int _ _) (wn_none rfl) rfl (rd_move rfl rfl) ?_
   refine GL_rd (wn_none rfl) rfl (rd_sliceE (lo := (1 + b.toNat)) (hi := m) rfl rfl Tryz.underlying35 ts5 (at_some rfl rfl) to_none (by omega) (by have := hs.cap.1; omega) hA2 rfl hc2) ?_
   refine GL_rd (wn_none rfl) rfl (rd_len rfl rfl Tryz.underlying35) ?_
   refine GL_rd (v := .int _ _) (wn_none rfl) rfl (rd_move rfl rfl) ?_
   refine GL_nil ?_
   refine GW_block ?_
   refine GW_loop ?_
   refine Lp_ind (α := Nat) (fun a_0 f_0 w' => match a_0 with | k => ∃ fz, f_0 = (upd (upd (upd (upd (upd fz 0 (.slice (some ⟨gA, bA, none⟩) m c)) 4 (.int .i64 ((1 + b.toNat : Nat) : Int))) 27 (.slice A2 (m - (1 + b.toNat)) c2)) 28 (.int .i64 ((m - (1 + b.toNat) : Nat) : Int))) 29 (.int .i64 (k : Int))) ∧ Hp w0 [] w' [] ∧ (k ≤ m - (1 + b.toNat)) ∧ (zeroL ((r.drop b.toNat).take k) = true)) (fun a_0 => match a_0 with | k => m - (1 + b.toNat) - k) ?_ 0 _ _ ?_
   ·rintro k f wz ⟨fz, rfl, hp, hk, hz⟩ ihL0
    refine Lp_round ?_
    refine GW_seq ?_
    refine GW_region ?_
    refine GL_rd (wn_none rfl) rfl (rd_bin rfl rfl rfl bo_lss) ?_
    refine GL_nil ?_
    refine GW_seq ?_
    refine GW_cond rfl (fun hb3 => ?_) (fun hb3 => ?_)
    ·(try simp only [decide_eq_true_eq, decide_eq_false_iff_not, Bool.not_eq_true', Bool.not_eq_false', Bool.not_eq_eq_eq_not, Bool.not_true, Bool.not_false, Int.not_lt, Int.not_le] at hb3)
     refine GW_skip ?_
     refine GW_seq ?_
     refine GW_block ?_
     refine GW_seq ?_
     refine GW_region ?_
     obtain ⟨gB, bB, rfl⟩ := hs2.addr (by rw [bys_length, List.length_drop]; omega)
     refine GL_rd (wn_none rfl) rfl (rd_indexS (j := k) rfl rfl rfl Tryz.underlying35 ts5 rfl (by omega) _ rfl) ?_
     refine GL_rd (wn_none rfl) rfl (rd_load rfl rfl Tryz.underlying5 rfl (Sl.byte (hs2.keep hp.mod) k (by omega))) ?_
     refine GL_rd (v := .int _ _) (wn_none rfl) rfl (rd_assign rfl rfl) ?_
     refine GL_nil ?_
     refine GW_seq ?_
     refine GW_region ?_
     refine GL_rd (v := .int _ _) (wn_none rfl) rfl (rd_move rfl rfl) ?_
     refine GL_rd (wn_none rfl) rfl (rd_bin rfl rfl rfl bo_neq) ?_
     refine GL_nil ?_
     refine GW_cond rfl (fun hb4 => ?_) (fun hb4 => ?_)
     ·(try simp only [decide_eq_true_eq, decide_eq_false_iff_not, Bool.not_eq_true', Bool.not_eq_false', Bool.not_eq_eq_eq_not, Bool.not_true, Bool.not_false, Int.not_lt, Int.not_le] at hb4)
      refine GW_seq ?_
      refine GW_region ?_
      refine GL_rd (v := .string _) (wn_none rfl) rfl (rd_assign rfl rfl) ?_
      refine GL_rd (v := .int _ _) (wn_none rfl) rfl (rd_assign rfl rfl) ?_
      refine GL_nil ?_
      refine GW_ret ?_
      have e1 := unpad_dirty (b := b) (r := r) (zeroL_no (k := k) (by rw [List.length_drop]; omega) (fun e => hb4 ((u8_zero _).2 e)))
      exact ⟨_, res2 Tryz.results109 (rv_tmp (v := .string _) rfl rfl) (rv_tmp (v := .int _ _) rfl rfl), by rw [e1.1, e1.2], hp⟩
     ·(try simp only [decide_eq_true_eq, decide_eq_false_iff_not, Bool.not_eq_true', Bool.not_eq_false', Bool.not_eq_eq_eq_not, Bool.not_true, Bool.not_false, Int.not_lt, Int.not_le] at hb4)
      refine GW_skip ?_
      refine GW_region ?_
      refine GL_rd (wn_none rfl) rfl (rd_bin rfl rfl rfl (bo_add64 (by omega))) ?_
      refine GL_rd (v := .int _ _) (wn_none rfl) rfl (rd_move rfl rfl) ?_
      refine GL_nil ?_
      exact ihL0 (k + 1) _ _ (by simp only []; omega) ⟨_, slots5 rfl rfl rfl rfl rfl, hp, (by omega), zeroL_take hz (by rw [List.length_drop]; omega) ((u8_zero _).1 hb4)⟩
    ·(try simp only [decide_eq_true_eq, decide_eq_false_iff_not, Bool.not_eq_true', Bool.not_eq_false', Bool.not_eq_eq_eq_not, Bool.not_true, Bool.not_false, Int.not_lt, Int.not_le] at hb3)
     refine GW_exit ?_
     refine GW_seq ?_
     refine GW_region ?_
     refine GL_rd (v := .slice _ _ _) (wn_none rfl) rfl (rd_move rfl rfl) ?_
     refine GL_rd (v := .int _ _) (wn_none rfl) rfl (rd_move rfl rfl) ?_
     refine GL_rd (wn_none rfl) rfl (rd_sliceS (lo := 1) (hi := (1 + b.toNat)) rfl rfl Tryz.underlying35 ts5 (at_some rfl rfl) (at_some rfl rfl) (by omega) (by have := hs.cap.1; omega)) ?_
     refine GL_rd (wn_none rfl) rfl (rd_toStr rfl rfl Tryz.underlying35 Tryz.underlying9 Tryz.underlying5 (Sl.cutB (hs.keep hp.mod) 1 (1 + b.toNat) (by omega) (by omega))) ?_
     refine GL_rd (v := .string _) (wn_none rfl) rfl (rd_assign rfl rfl) ?_
     refine GL_rd (v := .int _ _) (wn_none rfl) rfl (rd_assign rfl rfl) ?_
     refine GL_nil ?_
     refine GW_ret ?_
     obtain rfl : k = m - (1 + b.toNat) := by omega
     rw [List.take_of_length_le (by rw [List.length_drop]; omega)] at hz
     have e1 := unpad_yes (b := b) (r := r) (by (try simp only [List.length_cons] at hml); omega) hz
     refine ⟨_, res2 Tryz.results109 (rv_tmp (v := .string _) rfl rfl) (rv_tmp (v := .int _ _) rfl rfl), ?_, hp⟩
     rw [e1.1, e1.2, unpad_mid]
   ·refine ⟨_, slots5 rfl rfl rfl rfl rfl, hp, Nat.zero_le _, rfl⟩
theorem word_From (A : Option Addr) (m c : Nat) (w0 : World) : Does Tryz.prog 97 #[.slice A m c] w0 fun v w' => ∃ g, v = .pointer (some ⟨g, 0, none⟩) ∧ Hp w0 [] w' [cells g 142 [.slice A m c, .bool false]] := by
 refine does_of (l := [.slice A m c]) Tryz.func97 (by kernel_rfl) rfl Tryz.ntmps97 rfl rfl (by kernel_rfl) ?_
 have hp := Hp.refl w0 []
 refine GW_seq ?_
 refine GW_region ?_
 refine GL_rd (v := _) (wn_none rfl) rfl (rd_assign rfl rfl) ?_
 refine GL_nil ?_
 refine GW_seq ?_
 refine GW_region ?_
 refine GL_rd (v := .slice _ _ _) (wn_none rfl) rfl (rd_move rfl rfl) ?_
 refine GL_rd (wn_none rfl) rfl (rd_buildS (L := [.slice A m c, .bool false]) rfl tz142 pl142 (by kernel_rfl)) ?_
 refine GL_box (wn_none rfl) rfl rfl rfl rfl hp ?_
 intro g w hp
 refine GL_rd (v := .pointer (some ⟨_, _, none⟩)) (wn_none rfl) rfl (rd_assign rfl rfl) ?_
 refine GL_nil ?_
 refine GW_ret ?_
 exact ⟨_, res1 Tryz.results97 (rv_tmp (v := .pointer (some ⟨_, _, none⟩)) rfl rfl), _, rfl, hp⟩
theorem cur_Bytes (p : Nat) (bv : Value) (l : List UInt8) (bad : Bool) (k : Int) (w0 : World) (hg : (cells p 142 [bv, .bool bad]).at_ w0) (hB : ∀ w', Mod [p] w0 w' → Sl w' bv 1 l.length (bys l)) (hl : l.length ≤ 4294967296) : Does Tryz.prog 98 #[.pointer (some ⟨p, 0, none⟩), .int .i64 k] w0 fun v w' => ∃ bv', Suf bv l bv' (curL bad l k) ∧ Hp w0 [p] w' [.row 5 1 v (curOut bad l k).length (bys (curOut bad l k)), cells p 142 [bv', .bool (!curOk bad l k)]] := by
 obtain ⟨A, c, rfl⟩ := sl_shape (hB w0 (Mod.refl _ _))
 have hcap := (hB w0 (Mod.refl _ _)).cap
 refine does_of (l := [.pointer (some ⟨p, 0, none⟩), .int .i64 k]) Tryz.func98 (by kernel_rfl) rfl Tryz.ntmps98 rfl rfl (by kernel_rfl) ?_
 have hp := Hp.one hg
 refine GW_seq ?_
 refine GW_region ?_
 refine GL_rd (v := .slice _ _ _) (wn_none rfl) rfl (rd_assign rfl rfl) ?_
 refine GL_nil ?_
 refine GW_seq ?_
 refine GW_seq ?_
 refine GW_region ?_
 refine GL_rd (v := .pointer (some ⟨_, _, none⟩)) (wn_none rfl) rfl (rd_move rfl rfl) ?_
 refine GL_rd (wn_none rfl) rfl (rd_nilCheck rfl rfl) ?_
 refine GL_rd (wn_none rfl) rfl (rd_field rfl rfl fa142_1 _ rfl) ?_
 refine GL_rd (wn_none rfl) rfl (rd_load rfl rfl Tryz.underlying4 rfl ((cell_of_cells (hp.get 0 rfl) _).trans rfl)) ?_
 refine GL_rd (v := .bool _) (wn_none rfl) rfl (rd_move rfl rfl) ?_
 refine GL_split (t := 10) (b := _) rfl ?_ ?_
 ·intro hb; (try simp only [decide_eq_true_eq, decide_eq_false_iff_not, Bool.not_eq_true', Bool.not_eq_false', Bool.not_eq_eq_eq_not, Bool.not_true, Bool.not_false, Int.not_lt, Int.not_le] at hb)
  have hno : curOk bad l k = false := by simp [curOk, hb]
  refine GL_pass (nw_off rfl rfl rfl rfl rfl) rfl ?_
  refine GL_pass (nw_off rfl rfl rfl rfl rfl) rfl ?_
  refine GL_rd (v := .bool _) (wn_none rfl) rfl (rd_pickT rfl rfl rfl) ?_
  refine GL_rd (v := .bool _) (wn_none rfl) rfl (rd_move rfl rfl) ?_
  refine GL_pass (nw_off rfl rfl rfl rfl rfl) rfl ?_
  refine GL_pass (nw_off rfl rfl rfl rfl rfl) rfl ?_
  refine GL_pass (nw_off rfl rfl rfl rfl rfl) rfl ?_
  refine GL_pass (nw_off rfl rfl rfl rfl rfl) rfl ?_
  refine GL_pass (nw_off rfl rfl rfl rfl rfl) rfl ?_
  refine GL_pass (nw_off rfl rfl rfl rfl rfl) rfl ?_
  refine GL_pass (nw_off rfl rfl rfl rfl rfl) rfl ?_
  refine GL_rd (v := .bool _) (wn_none rfl) rfl (rd_pickT rfl rfl rfl) ?_
  refine GL_nil ?_
  refine GW_true rfl ?_
  refine GW_seq ?_
  refine GW_region ?_
  refine GL_rd (v := .pointer (some ⟨_, _, none⟩)) (wn_none rfl) rfl (rd_move rfl rfl) ?_
  refine GL_rd (wn_none rfl) rfl (rd_nilCheck rfl rfl) ?_
  refine GL_rd (wn_none rfl) rfl (rd_field rfl rfl fa142_1 _ rfl) ?_
  refine GL_store (i := 0) (wn_none rfl) rfl rfl rfl rfl ts4 rfl rfl (one1 rfl) hp rfl (by first | exact Nat.le_of_ble_eq_true rfl | simp [bys_length, *]) rfl ?_
  intro w hp
  refine GL_nil ?_
  refine GW_seq ?_
  refine GW_region ?_
  refine GL_rd (v := .int _ _) (wn_none rfl) rfl (rd_move rfl rfl) ?_
  refine GL_rd (wn_none rfl) rfl (rd_max rfl rfl rfl) ?_
  refine GL_rd (wn_none rfl) rfl (rd_min rfl rfl rfl) ?_
  refine GL_make (m := (min (max k 0) 256).toNat) (wn_none rfl) rfl rfl rfl Tryz.underlying35 ti5 rfl (by omega) (by omega) (by omega) hp ?_
  intro g w hp
  refine GL_rd (v := .slice _ _ _) (wn_none rfl) rfl (rd_assign rfl rfl) ?_
  refine GL_nil ?_
  refine GW_ret ?_
  refine ⟨_, res1 Tryz.results98 (rv_tmp (v := .slice _ _ _) rfl rfl), .slice A l.length c, ?_, ?_⟩
  · rw [(cur_no hno).2]; exact Suf.refl _ _
  · rw [(cur_no hno).1, hno, List.length_replicate, bys_replicate]; exact hp
 ·intro hb; (try simp only [decide_eq_true_eq, decide_eq_false_iff_not, Bool.not_eq_true', Bool.not_eq_false', Bool.not_eq_eq_eq_not, Bool.not_true, Bool.not_false, Int.not_lt, Int.not_le] at hb)
  subst hb
  refine GL_rd (v := .int _ _) (wn_on rfl rfl rfl rfl) rfl (rd_move rfl rfl) ?_
  refine GL_rd (wn_on rfl rfl rfl rfl) rfl (rd_bin rfl rfl rfl bo_lss) ?_
  refine GL_rd (v := .bool _) (wn_none rfl) rfl (rd_pickF rfl rfl rfl) ?_
  refine GL_rd (v := .bool _) (wn_none rfl) rfl (rd_move rfl rfl) ?_
  refine GL_split (t := 14) (b := _) rfl ?_ ?_
  ·intro hb2; (try simp only [decide_eq_true_eq, decide_eq_false_iff_not, Bool.not_eq_true', Bool.not_eq_false', Bool.not_eq_eq_eq_not, Bool.not_true, Bool.not_false, Int.not_lt, Int.not_le] at hb2)
   have hno : curOk false l k = false := by simp only [curOk, Bool.and_eq_false_iff, decide_eq_false_iff_not]; right; omega
   refine GL_pass (nw_off rfl rfl rfl rfl rfl) rfl ?_
   refine GL_pass (nw_off rfl rfl rfl rfl rfl) rfl ?_
   refine GL_pass (nw_off rfl rfl rfl rfl rfl) rfl ?_
   refine GL_pass (nw_off rfl rfl rfl rfl rfl) rfl ?_
   refine GL_pass (nw_off rfl rfl rfl rfl rfl) rfl ?_
   refine GL_pass (nw_off rfl rfl rfl rfl rfl) rfl ?_
   refine GL_pass (nw_off rfl rfl rfl rfl rfl) rfl ?_
   refine GL_rd (v := .bool _) (wn_none rfl) rfl (rd_pickT rfl rfl rfl) ?_
   refine GL_nil ?_
   refine GW_true rfl ?_
   refine GW_seq ?_
   refine GW_region ?_
   refine GL_rd (v := .pointer (some ⟨_, _, none⟩)) (wn_none rfl) rfl (rd_move rfl rfl) ?_
   refine GL_rd (wn_none rfl) rfl (rd_nilCheck rfl rfl) ?_
   refine GL_rd (wn_none rfl) rfl (rd_field rfl rfl fa142_1 _ rfl) ?_
   refine GL_store (i := 0) (wn_none rfl) rfl rfl rfl rfl ts4 rfl rfl (one1 rfl) hp rfl (by first | exact Nat.le_of_ble_eq_true rfl | simp [bys_length, *]) rfl ?_
   intro w hp
   refine GL_nil ?_
   refine GW_seq ?_
   refine GW_region ?_
   refine GL_rd (v := .int _ _) (wn_none rfl) rfl (rd_move rfl rfl) ?_
   refine GL_rd (wn_none rfl) rfl (rd_max rfl rfl rfl) ?_
   refine GL_rd (wn_none rfl) rfl (rd_min rfl rfl rfl) ?_
   refine GL_make (m := (min (max k 0) 256).toNat) (wn_none rfl) rfl rfl rfl Tryz.underlying35 ti5 rfl (by omega) (by omega) (by omega) hp ?_
   intro g2 w hp
   refine GL_rd (v := .slice _ _ _) (wn_none rfl) rfl (rd_assign rfl rfl) ?_
   refine GL_nil ?_
   refine GW_ret ?_
   refine ⟨_, res1 Tryz.results98 (rv_tmp (v := .slice _ _ _) rfl rfl), .slice A l.length c, ?_, ?_⟩
   · rw [(cur_no hno).2]; exact Suf.refl _ _
   · rw [(cur_no hno).1, hno, List.length_replicate, bys_replicate]; exact hp
  ·intro hb2; (try simp only [decide_eq_true_eq, decide_eq_false_iff_not, Bool.not_eq_true', Bool.not_eq_false', Bool.not_eq_eq_eq_not, Bool.not_true, Bool.not_false, Int.not_lt, Int.not_le] at hb2)
   refine GL_rd (v := .int _ _) (wn_on rfl rfl rfl rfl) rfl (rd_move rfl rfl) ?_
   refine GL_rd (v := .pointer (some ⟨_, _, none⟩)) (wn_on rfl rfl rfl rfl) rfl (rd_move rfl rfl) ?_
   refine GL_rd (wn_on rfl rfl rfl rfl) rfl (rd_nilCheck rfl rfl) ?_
   refine GL_rd (wn_on rfl rfl rfl rfl) rfl (rd_field rfl rfl fa142_0 _ rfl) ?_
   refine GL_rd (v := .slice _ _ _) (wn_on rfl rfl rfl rfl) rfl (rd_load rfl rfl Tryz.underlying35 rfl ((cell_of_cells (hp.get 0 rfl) _).trans rfl)) ?_
   refine GL_rd (wn_on rfl rfl rfl rfl) rfl (rd_len rfl rfl Tryz.underlying35) ?_
   refine GL_rd (wn_on rfl rfl rfl rfl) rfl (rd_bin rfl rfl rfl bo_gtr) ?_
   refine GL_rd (v := .bool _) (wn_none rfl) rfl (rd_pickF rfl rfl rfl) ?_
   refine GL_nil ?_
   refine GW_cond rfl (fun hb3 => ?_) (fun hb3 => ?_)
   ·(try simp only [decide_eq_true_eq, decide_eq_false_iff_not, Bool.not_eq_true', Bool.not_eq_false', Bool.not_eq_eq_eq_not, Bool.not_true, Bool.not_false, Int.not_lt, Int.not_le] at hb3)
    have hno : curOk false l k = false := by simp only [curOk, Bool.and_eq_false_iff, decide_eq_false_iff_not]; right; omega
    refine GW_seq ?_
    refine GW_region ?_
    refine GL_rd (v := .pointer (some ⟨_, _, none⟩)) (wn_none rfl) rfl (rd_move rfl rfl) ?_
    refine GL_rd (wn_none rfl) rfl (rd_nilCheck rfl rfl) ?_
    refine GL_rd (wn_none rfl) rfl (rd_field rfl rfl fa142_1 _ rfl) ?_
    refine GL_store (i := 0) (wn_none rfl) rfl rfl rfl rfl ts4 rfl rfl (one1 rfl) hp rfl (by first | exact Nat.le_of_ble_eq_true rfl | simp [bys_length, *]) rfl ?_
    intro w hp
    refine GL_nil ?_
    refine GW_seq ?_
    refine GW_region ?_
    refine GL_rd (v := .int _ _) (wn_none rfl) rfl (rd_move rfl rfl) ?_
    refine GL_rd (wn_none rfl) rfl (rd_max rfl rfl rfl) ?_
    refine GL_rd (wn_none rfl) rfl (rd_min rfl rfl rfl) ?_
    refine GL_make (m := (min (max k 0) 256).toNat) (wn_none rfl) rfl rfl rfl Tryz.underlying35 ti5 rfl (by omega) (by omega) (by omega) hp ?_
    intro g3 w hp
    refine GL_rd (v := .slice _ _ _) (wn_none rfl) rfl (rd_assign rfl rfl) ?_
    refine GL_nil ?_
    refine GW_ret ?_
    refine ⟨_, res1 Tryz.results98 (rv_tmp (v := .slice _ _ _) rfl rfl), .slice A l.length c, ?_, ?_⟩
    · rw [(cur_no hno).2]; exact Suf.refl _ _
    · rw [(cur_no hno).1, hno, List.length_replicate, bys_replicate]; exact hp
   ·(try simp only [decide_eq_true_eq, decide_eq_false_iff_not, Bool.not_eq_true', Bool.not_eq_false', Bool.not_eq_eq_eq_not, Bool.not_true, Bool.not_false, Int.not_lt, Int.not_le] at hb3)
    have hyes : curOk false l k = true := by simp only [curOk, Bool.not_false, Bool.true_and, decide_eq_true_eq]; omega
    obtain ⟨j, rfl⟩ : ∃ j : Nat, k = (j : Int) := ⟨k.toNat, by omega⟩
    have hj : j ≤ l.length := by omega
    refine GW_skip ?_
    refine GW_seq ?_
    refine GW_region ?_
    refine GL_rd (v := .int _ _) (wn_none rfl) rfl (rd_move rfl rfl) ?_
    refine GL_make (m := j) (wn_none rfl) rfl rfl rfl Tryz.underlying35 ti5 rfl rfl (by omega) (by omega) hp ?_
    intro g4 w hp
    refine GL_rd (v := .slice _ _ _) (wn_none rfl) rfl (rd_assign rfl rfl) ?_
    refine GL_nil ?_
    refine GW_seq ?_
    refine GW_region ?_
    refine GL_rd (v := .slice _ _ _) (wn_none rfl) rfl (rd_move rfl rfl) ?_
    refine GL_rd (v := .pointer (some ⟨_, _, none⟩)) (wn_none rfl) rfl (rd_move rfl rfl) ?_
    refine GL_rd (wn_none rfl) rfl (rd_nilCheck rfl rfl) ?_
    refine GL_rd (wn_none rfl) rfl (rd_field rfl rfl fa142_0 _ rfl) ?_
    refine GL_rd (v := .slice _ _ _) (wn_none rfl) rfl (rd_load rfl rfl Tryz.underlying35 rfl ((cell_of_cells (hp.get 1 rfl) _).trans rfl)) ?_
    refine GL_copyR (i := 0) (wn_none rfl) rfl rfl rfl rfl Tryz.underlying35 ts5 hp rfl rfl (hB _ hp.mod) (bys_take _ _) (by rw [bys_length, List.length_replicate, List.length_take]; omega) (bys_one _) (cur_copy l j hj) ?_
    intro w hp
    refine GL_nil ?_
    refine GW_seq ?_
    refine GW_region ?_
    refine GL_rd (v := .pointer (some ⟨_, _, none⟩)) (wn_none rfl) rfl (rd_move rfl rfl) ?_
    refine GL_rd (v := .pointer (some ⟨_, _, none⟩)) (wn_none rfl) rfl (rd_move rfl rfl) ?_
    refine GL_rd (wn_none rfl) rfl (rd_nilCheck rfl rfl) ?_
    refine GL_rd (wn_none rfl) rfl (rd_field rfl rfl fa142_0 _ rfl) ?_
    refine GL_rd (v := .slice _ _ _) (wn_none rfl) rfl (rd_load rfl rfl Tryz.underlying35 rfl ((cell_of_cells (hp.get 1 rfl) _).trans rfl)) ?_
    refine GL_rd (v := .int _ _) (wn_none rfl) rfl (rd_move rfl rfl) ?_
    refine GL_rd (wn_none rfl) rfl (rd_sliceS (lo := j) (hi := l.length) rfl rfl Tryz.underlying35 ts5 (at_some rfl rfl) to_none hj hcap.1) ?_
    refine GL_rd (wn_none rfl) rfl (rd_nilCheck rfl rfl) ?_
    refine GL_rd (wn_none rfl) rfl (rd_field rfl rfl fa142_0 _ rfl) ?_
    refine GL_store (i := 1) (wn_none rfl) rfl rfl rfl rfl ts35 rfl rfl (one1 rfl) hp rfl (by first | exact Nat.le_of_ble_eq_true rfl | simp [bys_length, *]) rfl ?_
    intro w hp
    refine GL_nil ?_
    refine GW_seq ?_
    refine GW_region ?_
    refine GL_rd (v := .slice _ _ _) (wn_none rfl) rfl (rd_move rfl rfl) ?_
    refine GL_rd (v := .slice _ _ _) (wn_none rfl) rfl (rd_assign rfl rfl) ?_
    refine GL_nil ?_
    refine GW_ret ?_
    refine ⟨_, res1 Tryz.results98 (rv_tmp (v := .slice _ _ _) rfl rfl), .slice (if c = j then A else A.map (·.add (j * 1))) (l.length - j) (c - j), ?_, ?_⟩
    · rw [(cur_yes hyes).2]; exact Suf.cut rfl j hj
    · rw [(cur_yes hyes).1, hyes, List.length_take, Int.toNat_natCast, Nat.min_eq_left hj]; exact hp
theorem cur_Num (p : Nat) (bv : Value) (l : List UInt8) (bad : Bool) (k : Int) (w0 : World) (hg : (cells p 142 [bv, .bool bad]).at_ w0) (hB : ∀ w', Mod [p] w0 w' → Sl w' bv 1 l.length (bys l)) (hl : l.length ≤ 4294967296) : Does Tryz.prog 99 #[.pointer (some ⟨p, 0, none⟩), .int .i64 k] w0 fun v w' => ∃ bv', Suf bv l bv' (curL bad l k) ∧ v = .int .u64 (curNum bad l k : Int) ∧ Hp w0 [p] w' [cells p 142 [bv', .bool (!curOk bad l k)]] := by
 obtain ⟨A, c, rfl⟩ := sl_shape (hB w0 (Mod.refl _ _))
 have hcap := (hB w0 (Mod.refl _ _)).cap
 refine does_of (l := [.pointer (some ⟨p, 0, none⟩), .int .i64 k]) Tryz.func99 (by kernel_rfl) rfl Tryz.ntmps99 rfl rfl (by kernel_rfl) ?_
 have hp := Hp.one hg
 refine GW_seq ?_
 refine GW_region ?_
 refine GL_rd (v := .int _ _) (wn_none rfl) rfl (rd_assign rfl rfl) ?_
 refine GL_nil ?_
 refine GW_seq ?_
 refine GW_region ?_
 refine GL_rd (v := .pointer (some ⟨_, _, none⟩)) (wn_none rfl) rfl (rd_move rfl rfl) ?_
 refine GL_rd (v := .int _ _) (wn_none rfl) rfl (rd_move rfl rfl) ?_
 refine GL_call (wn_none rfl) rfl rfl (cur_Bytes p _ l bad k _ (hp.get 0 rfl) (fun w' h => hB w' (hp.modAt 0 rfl h)) hl) rfl ?_
 rintro v w ⟨bv', hsuf, hk⟩
 have hp := hp.turnAtMore 0 rfl hk
 refine GL_call (wn_none rfl) rfl rfl (word_Get v _ _ _ (Sl.row (hp.get 0 rfl))) rfl ?_
 rintro _ w ⟨rfl, hk⟩
 have hp := hp.comp hk
 refine GL_rd (v := .int _ _) (wn_none rfl) rfl (rd_assign rfl rfl) ?_
 refine GL_nil ?_
 refine GW_ret ?_
 exact ⟨_, res1 Tryz.results99 (rv_tmp (v := .int _ _) rfl rfl), _, hsuf, rfl, hp.drop 1⟩
theorem cur_Text (p : Nat) (bv : Value) (l : List UInt8) (bad : Bool) (k : Int) (w0 : World) (hg : (cells p 142 [bv, .bool bad]).at_ w0) (hB : ∀ w', Mod [p] w0 w' → Sl w' bv 1 l.length (bys l)) (hl : l.length ≤ 4294967296) : Does Tryz.prog 100 #[.pointer (some ⟨p, 0, none⟩), .int .i64 k] w0 fun v w' => ∃ bv', Suf bv l bv' (curL bad l k) ∧ v = .string ⟨(curText bad l k).toArray⟩ ∧ Hp w0 [p] w' [cells p 142 [bv', .bool (curTextBad bad l k)]] := by
 obtain ⟨A, c, rfl⟩ := sl_shape (hB w0 (Mod.refl _ _))
 have hcap := (hB w0 (Mod.refl _ _)).cap
 refine does_of (l := [.pointer (some ⟨p, 0, none⟩), .int .i64 k]) Tryz.func100 (by kernel_rfl) rfl Tryz.ntmps100 rfl rfl (by kernel_rfl) ?_
 have hp := Hp.one hg
 refine GW_seq ?_
 refine GW_region ?_
 refine GL_rd (v := .string _) (wn_none rfl) rfl (rd_assign rfl rfl) ?_
 refine GL_nil ?_
 refine GW_seq ?_
 refine GW_region ?_
 refine GL_rd (v := .pointer (some ⟨_, _, none⟩)) (wn_none rfl) rfl (rd_move rfl rfl) ?_
 refine GL_rd (v := .int _ _) (wn_none rfl) rfl (rd_move rfl rfl) ?_
 refine GL_call (wn_none rfl) rfl rfl (cur_Bytes p _ l bad k _ (hp.get 0 rfl) (fun w' h => hB w' (hp.modAt 0 rfl h)) hl) rfl ?_
 rintro v w ⟨bv', hsuf, hk⟩
 have hp := hp.turnAtMore 0 rfl hk
 refine GL_call (wn_none rfl) rfl rfl (word_Unpad v _ _ _ (Sl.row (hp.get 0 rfl))) rfl ?_
 rintro _ w ⟨rfl, hk⟩
 have hp := hp.comp hk
 refine GL_rd (v := .tuple _) (wn_none rfl) rfl (rd_move rfl rfl) ?_
 refine GL_rd (v := .string _) (wn_none rfl) rfl (rd_extract rfl rfl rfl) ?_
 refine GL_rd (v := .int _ _) (wn_none rfl) rfl (rd_extract rfl rfl rfl) ?_
 refine GL_rd (v := .string _) (wn_none rfl) rfl (rd_assign rfl rfl) ?_
 refine GL_rd (v := .int _ _) (wn_none rfl) rfl (rd_assign rfl rfl) ?_
 refine GL_nil ?_
 refine GW_seq ?_
 refine GW_seq ?_
 refine GW_region ?_
 refine GL_rd (v := .int _ _) (wn_none rfl) rfl (rd_move rfl rfl) ?_
 refine GL_rd (wn_none rfl) rfl (rd_bin rfl rfl rfl bo_neq) ?_
 refine GL_nil ?_
 refine GW_cond rfl (fun hb => ?_) (fun hb => ?_)
 ·(try simp only [decide_eq_true_eq, decide_eq_false_iff_not, Bool.not_eq_true', Bool.not_eq_false', Bool.not_eq_eq_eq_not, Bool.not_true, Bool.not_false, Int.not_lt, Int.not_le] at hb)
  refine GW_seq ?_
  refine GW_region ?_
  refine GL_rd (v := .pointer (some ⟨_, _, none⟩)) (wn_none rfl) rfl (rd_move rfl rfl) ?_
  refine GL_rd (wn_none rfl) rfl (rd_nilCheck rfl rfl) ?_
  refine GL_rd (wn_none rfl) rfl (rd_field rfl rfl fa142_1 _ rfl) ?_
  refine GL_store (i := 1) (wn_none rfl) rfl rfl rfl rfl ts4 rfl rfl (one1 rfl) hp rfl (by first | exact Nat.le_of_ble_eq_true rfl | simp [bys_length, *]) rfl ?_
  intro w hp
  refine GL_nil ?_
  refine GW_seq ?_
  refine GW_region ?_
  refine GL_rd (v := .string _) (wn_none rfl) rfl (rd_assign rfl rfl) ?_
  refine GL_nil ?_
  refine GW_ret ?_
  have e1 : unpadOk (curOut bad l k) = false := by cases h : unpadOk (curOut bad l k) with | false => rfl | true => exact absurd (unpadC_iff.2 h) hb
  refine ⟨_, res1 Tryz.results100 (rv_tmp (v := .string _) rfl rfl), _, hsuf, ?_, ?_⟩
  · rw [curText, unpadL_no e1]
  · rw [curTextBad, e1, Bool.not_false, Bool.or_true]; exact hp.drop 1
 ·(try simp only [decide_eq_true_eq, decide_eq_false_iff_not, Bool.not_eq_true', Bool.not_eq_false', Bool.not_eq_eq_eq_not, Bool.not_true, Bool.not_false, Int.not_lt, Int.not_le] at hb)
  refine GW_skip ?_
  refine GW_seq ?_
  refine GW_region ?_
  refine GL_rd (v := .string _) (wn_none rfl) rfl (rd_move rfl rfl) ?_
  refine GL_rd (v := .string _) (wn_none rfl) rfl (rd_assign rfl rfl) ?_
  refine GL_nil ?_
  refine GW_ret ?_
  have e1 : unpadOk (curOut bad l k) = true := unpadC_iff.1 hb
  refine ⟨_, res1 Tryz.results100 (rv_tmp (v := .string _) rfl rfl), _, hsuf, rfl, ?_⟩
  rw [curTextBad, e1, Bool.not_true, Bool.or_false]; exact hp.drop 1
theorem cur_Right (p : Nat) (bv : Value) (l : List UInt8) (bad : Bool) (w0 : World) (hg : (cells p 142 [bv, .bool bad]).at_ w0) (hB : ∀ w', Mod [p] w0 w' → Sl w' bv 1 l.length (bys l)) : Does Tryz.prog 101 #[.pointer (some ⟨p, 0, none⟩)] w0 fun v w' => v = .bool (!bad) ∧ Hp w0 [] w' [] := by
 obtain ⟨A, c, rfl⟩ := sl_shape (hB w0 (Mod.refl _ _))
 have hcap := (hB w0 (Mod.refl _ _)).cap
 refine does_of (l := [.pointer (some ⟨p, 0, none⟩)]) Tryz.func101 (by kernel_rfl) rfl Tryz.ntmps101 rfl rfl (by kernel_rfl) ?_
 have hp := Hp.refl w0 []
 refine GW_seq ?_
 refine GW_region ?_
 refine GL_rd (v := .bool _) (wn_none rfl) rfl (rd_assign rfl rfl) ?_
 refine GL_nil ?_
 refine GW_seq ?_
 refine GW_region ?_
 refine GL_rd (v := .pointer (some ⟨_, _, none⟩)) (wn_none rfl) rfl (rd_move rfl rfl) ?_
 refine GL_rd (wn_none rfl) rfl (rd_nilCheck rfl rfl) ?_
 refine GL_rd (wn_none rfl) rfl (rd_field rfl rfl fa142_1 _ rfl) ?_
 refine GL_rd (wn_none rfl) rfl (rd_load rfl rfl Tryz.underlying4 rfl (cell_of_cells hg 1)) ?_
 refine GL_rd (wn_none rfl) rfl (rd_not rfl rfl) ?_
 refine GL_rd (v := .bool _) (wn_none rfl) rfl (rd_assign rfl rfl) ?_
 refine GL_nil ?_
 refine GW_ret ?_
 exact ⟨_, res1 Tryz.results101 (rv_tmp (v := .bool _) rfl rfl), rfl, hp⟩
end Go.Proofs.YtpagpmioopaciaaGreat
