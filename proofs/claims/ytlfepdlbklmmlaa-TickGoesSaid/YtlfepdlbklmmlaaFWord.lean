/- Walks of functions of the program. -/
import Derived.Test.YtlfepdlbklmmlaaActs
import Derived.Test.YtlfepdlbklmmlaaTypes
import Derived.Test.YtlfepdlbklmmlaaWordS
set_option linter.unusedVariables false
set_option linter.unusedSimpArgs false
namespace Go.Proofs.Ytlfepdlbklmmlaa
open Go.Mo Go.RowKit
theorem word_Put (n : Nat) (size : Int) (w0 : World) (hn : n < 18446744073709551616) (hs : size ≤ 100000) : Does Try.prog 18 #[.int .u64 (n : Int), .int .i64 size] w0 fun v w' => ∃ g, v = .slice (some ⟨g, 0, none⟩) size.toNat size.toNat ∧ Hp w0 [] w' [.row 5 1 v size.toNat (bys (putL n size.toNat))] := by
  obtain ⟨m, hm⟩ : ∃ m : Nat, m = size.toNat := ⟨_, rfl⟩
  rw [← hm]
  refine does_of (l := [.int .u64 (n : Int), .int .i64 size]) Try.func18 (by kernel_rfl) rfl Try.ntmps18 rfl rfl ?_
  have hp := Hp.refl w0 []
  refine GW_seq ?_
  refine GW_region ?_
  refine GL_rd (v := .slice _ _ _) (wn_none rfl) rfl (rd_assign rfl rfl) ?_
  refine GL_nil ?_
  refine GW_seq ?_
  refine GW_region ?_
  refine GL_rd (v := .int _ _) (wn_none rfl) rfl (rd_move rfl rfl) ?_
  refine GL_rd (wn_none rfl) rfl (rd_max rfl rfl rfl) ?_
  refine GL_make (m := m) (wn_none rfl) rfl rfl rfl Try.underlying23 ti5 rfl (by omega) (by omega) (by omega) hp ?_
  intro g w hp
  refine GL_rd (v := .slice _ _ _) (wn_none rfl) rfl (rd_assign rfl rfl) ?_
  refine GL_nil ?_
  refine GW_seq ?_
  refine GW_seq ?_
  refine GW_region ?_
  refine GL_rd (v := .slice _ _ _) (wn_none rfl) rfl (rd_move rfl rfl) ?_
  refine GL_rd (wn_none rfl) rfl (rd_len rfl rfl Try.underlying23) ?_
  refine GL_rd (v := .int _ _) (wn_none rfl) rfl (rd_move rfl rfl) ?_
  refine GL_nil ?_
  refine GW_block ?_
  refine GW_loop ?_
  refine Lp_ind (α := Nat) (fun a f w' => match a with | k => ∃ fz, f = (upd (upd (upd (upd fz 0 (.int .u64 (n : Int))) 5 (.slice (some ⟨g, 0, none⟩) m m)) 11 (.int .i64 (m : Int))) 12 (.int .i64 (k : Int))) ∧ Hp w0 [] w' [.row 5 1 (.slice (some ⟨g, 0, none⟩) m m) m (bys (putL n k ++ List.replicate (m - k) 0))] ∧ (k ≤ m)) (fun a => match a with | k => m - k) ?_ 0 _ _ ?_
  · rintro k f wz ⟨fz, rfl, hp, hk⟩ ihL0
    refine Lp_round ?_
    refine GW_seq ?_
    refine GW_region ?_
    refine GL_rd (wn_none rfl) rfl (rd_bin rfl rfl rfl bo_lss) ?_
    refine GL_nil ?_
    refine GW_seq ?_
    refine GW_cond rfl (fun hb => ?_) (fun hb => ?_)
    · (try simp only [decide_eq_true_eq, decide_eq_false_iff_not, Bool.not_eq_true', Bool.not_eq_false', Bool.not_eq_eq_eq_not, Bool.not_true, Bool.not_false, Int.not_lt, Int.not_le] at hb)
      refine GW_skip ?_
      refine GW_seq ?_
      refine GW_block ?_
      refine GW_seq ?_
      refine GW_region ?_
      refine GL_rd (v := .int _ _) (wn_none rfl) rfl (rd_move rfl rfl) ?_
      refine GL_rd (v := .int _ _) (wn_none rfl) rfl (rd_assign rfl rfl) ?_
      refine GL_nil ?_
      refine GW_seq ?_
      refine GW_region ?_
      refine GL_rd (v := .int _ _) (wn_none rfl) rfl (rd_move rfl rfl) ?_
      refine GL_rd (wn_none rfl) rfl (rd_bin rfl rfl rfl bo_lss) ?_
      refine GL_nil ?_
      refine GW_cond rfl (fun hb2 => ?_) (fun hb2 => ?_)
      · (try simp only [decide_eq_true_eq, decide_eq_false_iff_not, Bool.not_eq_true', Bool.not_eq_false', Bool.not_eq_eq_eq_not, Bool.not_true, Bool.not_false, Int.not_lt, Int.not_le] at hb2)
        refine GW_region ?_
        refine GL_rd (v := .slice _ _ _) (wn_none rfl) rfl (rd_move rfl rfl) ?_
        refine GL_rd (v := .int _ _) (wn_none rfl) rfl (rd_move rfl rfl) ?_
        refine GL_rd (v := .int _ _) (wn_none rfl) rfl (rd_move rfl rfl) ?_
        refine GL_rd (v := .int _ _) (wn_none rfl) rfl (rd_move rfl rfl) ?_
        refine GL_rd (wn_none rfl) rfl (rd_bin rfl rfl rfl (bo_mul64 (by omega))) ?_
        refine GL_rd (wn_none rfl) rfl (rd_bin rfl rfl rfl (bo_shr (by omega) (by omega))) ?_
        refine GL_rd (wn_none rfl) rfl (rd_conv rfl rfl Try.underlying5 Try.underlying22 (by simp)) ?_
        refine GL_rd (wn_none rfl) rfl (rd_indexS (j := k) rfl rfl rfl Try.underlying23 ts5 rfl (by omega) _ rfl) ?_
        refine GL_storeR (i := 0) (wn_none rfl) rfl rfl rfl rfl ts5 rfl rfl (one1 rfl) hp rfl rfl (by simp [bys_length, putL_length]; omega) (put_small n k m (by omega) (by omega)) ?_
        intro w hp
        refine GL_nil ?_
        refine GW_region ?_
        refine GL_rd (wn_none rfl) rfl (rd_bin rfl rfl rfl (bo_add64 (by omega))) ?_
        refine GL_rd (v := .int _ _) (wn_none rfl) rfl (rd_move rfl rfl) ?_
        refine GL_nil ?_
        exact ihL0 (k + 1) _ _ (by simp only []; omega) ⟨_, slots4 rfl rfl rfl rfl, hp, (by omega)⟩
      · (try simp only [decide_eq_true_eq, decide_eq_false_iff_not, Bool.not_eq_true', Bool.not_eq_false', Bool.not_eq_eq_eq_not, Bool.not_true, Bool.not_false, Int.not_lt, Int.not_le] at hb2)
        rw [put_large n k m hn (by omega) (by omega)] at hp
        refine GW_skip ?_
        refine GW_region ?_
        refine GL_rd (wn_none rfl) rfl (rd_bin rfl rfl rfl (bo_add64 (by omega))) ?_
        refine GL_rd (v := .int _ _) (wn_none rfl) rfl (rd_move rfl rfl) ?_
        refine GL_nil ?_
        exact ihL0 (k + 1) _ _ (by simp only []; omega) ⟨_, slots4 rfl rfl rfl rfl, hp, (by omega)⟩
    · (try simp only [decide_eq_true_eq, decide_eq_false_iff_not, Bool.not_eq_true', Bool.not_eq_false', Bool.not_eq_eq_eq_not, Bool.not_true, Bool.not_false, Int.not_lt, Int.not_le] at hb)
      obtain rfl : k = m := by omega
      rw [Nat.sub_self, List.replicate_zero, List.append_nil] at hp
      refine GW_exit ?_
      refine GW_seq ?_
      refine GW_region ?_
      refine GL_rd (v := .slice _ _ _) (wn_none rfl) rfl (rd_move rfl rfl) ?_
      refine GL_rd (v := .slice _ _ _) (wn_none rfl) rfl (rd_assign rfl rfl) ?_
      refine GL_nil ?_
      refine GW_ret ?_
      exact ⟨_, res1 Try.results18 (rv_tmp (v := .slice _ _ _) rfl rfl), g, rfl, hp⟩
  · rw [show List.replicate m (Value.int .u8 0) = bys (putL n 0 ++ List.replicate (m - 0) 0) from (bys_replicate m 0).symm] at hp
    refine ⟨_, slots4 rfl rfl rfl rfl, hp, Nat.zero_le _⟩

theorem ref_Put : ∀ (k : Nat) (n : Nat) (size : Int) (w0 : World) (hn : n < 18446744073709551616) (hs : size ≤ 100000) (hkk : size.toNat = k), Does Try.prog 19 #[.int .u64 (n : Int), .int .i64 size] w0 fun v w' => Hp w0 [] w' [.row 5 1 v k (bys (putL n k))] := by
  intro k
  induction k using Nat.strongRecOn with
  | _ k ih =>
    intro n size w0 hn hs hkk
    refine does_of (l := [.int .u64 (n : Int), .int .i64 size]) Try.func19 (by kernel_rfl) rfl Try.ntmps19 rfl rfl ?_
    have hp := Hp.refl w0 []
    refine GW_seq ?_
    refine GW_region ?_
    refine GL_rd (v := .slice _ _ _) (wn_none rfl) rfl (rd_assign rfl rfl) ?_
    refine GL_nil ?_
    refine GW_seq ?_
    refine GW_seq ?_
    refine GW_region ?_
    refine GL_rd (v := .int _ _) (wn_none rfl) rfl (rd_move rfl rfl) ?_
    refine GL_rd (wn_none rfl) rfl (rd_bin rfl rfl rfl bo_leq) ?_
    refine GL_nil ?_
    refine GW_cond rfl (fun hb => ?_) (fun hb => ?_)
    · (try simp only [decide_eq_true_eq, decide_eq_false_iff_not, Bool.not_eq_true', Bool.not_eq_false', Bool.not_eq_eq_eq_not, Bool.not_true, Bool.not_false, Int.not_lt, Int.not_le] at hb)
      obtain rfl : k = 0 := by omega
      refine GW_seq ?_
      refine GW_region ?_
      refine GL_rd (v := .slice _ _ _) (wn_none rfl) rfl (rd_assign rfl rfl) ?_
      refine GL_nil ?_
      refine GW_ret ?_
      exact ⟨_, res1 Try.results19 (rv_tmp (v := .slice _ _ _) rfl rfl), hp.nilRow _ _⟩
    · (try simp only [decide_eq_true_eq, decide_eq_false_iff_not, Bool.not_eq_true', Bool.not_eq_false', Bool.not_eq_eq_eq_not, Bool.not_true, Bool.not_false, Int.not_lt, Int.not_le] at hb)
      obtain ⟨j, rfl⟩ : ∃ j, k = j + 1 := ⟨k - 1, by omega⟩
      refine GW_skip ?_
      refine GW_seq ?_
      refine GW_region ?_
      refine GL_rd (v := .int _ _) (wn_none rfl) rfl (rd_move rfl rfl) ?_
      refine GL_rd (wn_none rfl) rfl (rd_bin rfl rfl rfl (bo_rem64 (by omega) (by omega))) ?_
      refine GL_rd (wn_none rfl) rfl (rd_conv rfl rfl Try.underlying5 Try.underlying22 (by simp)) ?_
      refine GL_lit (L := [.int .u8 (IntKind.u8.wrap ((n : Int) % 256))]) (wn_none rfl) rfl rfl Try.underlying23 ts5 tz5 rfl (by kernel_rfl) rfl rfl hp ?_
      intro g w hp
      refine GL_rd (v := .slice _ _ _) (wn_none rfl) rfl (rd_assign rfl rfl) ?_
      refine GL_nil ?_
      refine GW_seq ?_
      refine GW_region ?_
      refine GL_rd (v := .slice _ _ _) (wn_none rfl) rfl (rd_move rfl rfl) ?_
      refine GL_rd (v := .int _ _) (wn_none rfl) rfl (rd_move rfl rfl) ?_
      refine GL_rd (wn_none rfl) rfl (rd_bin rfl rfl rfl (bo_quoU (by omega) (by omega) (by omega))) ?_
      refine GL_rd (v := .int _ _) (wn_none rfl) rfl (rd_move rfl rfl) ?_
      refine GL_rd (wn_none rfl) rfl (rd_bin rfl rfl rfl (bo_sub64 (by omega))) ?_
      refine GL_call (wn_none rfl) rfl rfl (ih j (by omega) (n / 256) (size - 1) _ (by omega) (by omega) (by omega)) rfl ?_
      intro v2 w hk
      have hp := hp.comp hk
      refine GL_append (i := 1) (wn_none rfl) rfl rfl rfl rfl Try.underlying23 ti5 rfl (by decide) hp rfl (Sl.row (hp.get 0 rfl)) (bys_one _) (by omega) (by omega) ?_
      intro v w hp
      refine GL_rd (v := v) (wn_none rfl) rfl (rd_assign rfl rfl) ?_
      refine GL_nil ?_
      refine GW_ret ?_
      refine ⟨_, res1 Try.results19 (rv_tmp (v := v) rfl rfl), ?_⟩
      have hp := hp.drop 1
      exact hp.cast (by rw [put_head, Nat.add_comm 1 j]; rfl)

theorem ref_Same (sv tv : Value) (m k : Nat) (a b : List UInt8) (w0 : World) (hs : Sl w0 sv 1 m (bys a)) (ht : Sl w0 tv 1 k (bys b)) : Does Try.prog 17 #[sv, tv] w0 fun v w' => v = .bool (decide (a = b)) ∧ Hp w0 [] w' [] := by
  refine does_of (l := [sv, tv]) Try.func17 (by kernel_rfl) rfl Try.ntmps17 rfl rfl ?_
  have hp := Hp.refl w0 []
  refine GW_seq ?_
  refine GW_region ?_
  refine GL_rd (v := .bool _) (wn_none rfl) rfl (rd_assign rfl rfl) ?_
  refine GL_nil ?_
  refine GW_seq ?_
  refine GW_region ?_
  refine GL_rd (v := sv) (wn_none rfl) rfl (rd_move rfl rfl) ?_
  refine GL_rd (wn_none rfl) rfl (rd_toStr rfl rfl Try.underlying23 Try.underlying9 Try.underlying5 (hs.keep hp.mod)) ?_
  refine GL_rd (v := tv) (wn_none rfl) rfl (rd_move rfl rfl) ?_
  refine GL_rd (wn_none rfl) rfl (rd_toStr rfl rfl Try.underlying23 Try.underlying9 Try.underlying5 (ht.keep hp.mod)) ?_
  refine GL_rd (wn_none rfl) rfl (rd_bin rfl rfl rfl bo_seql) ?_
  refine GL_rd (v := .bool _) (wn_none rfl) rfl (rd_assign rfl rfl) ?_
  refine GL_nil ?_
  refine GW_ret ?_
  exact ⟨_, res1 Try.results17 (rv_tmp (v := .bool _) rfl rfl), by rw [bytes_eq], hp⟩

theorem word_Get (sv : Value) (m : Nat) (l : List UInt8) (w0 : World) (hs : Sl w0 sv 1 m (bys l)) : Does Try.prog 20 #[sv] w0 fun v w' => v = .int .u64 (getL (l.take 8) : Int) ∧ Hp w0 [] w' [] := by
  obtain ⟨A, c, rfl⟩ := sl_shape hs
  have hml := hs.blen
  have hmle := hs.le
  refine does_of (l := [.slice A m c]) Try.func20 (by kernel_rfl) rfl Try.ntmps20 rfl rfl ?_
  have hp := Hp.refl w0 []
  obtain ⟨q, hq, hq8, hql⟩ : ∃ q : Nat, (q : Int) = min (m : Int) 8 ∧ q ≤ 8 ∧ q ≤ m := ⟨min m 8, by omega, by omega, by omega⟩
  have hqt : q = (l.take 8).length := by rw [List.length_take]; omega
  refine GW_seq ?_
  refine GW_region ?_
  refine GL_rd (v := .int _ _) (wn_none rfl) rfl (rd_assign rfl rfl) ?_
  refine GL_nil ?_
  refine GW_seq ?_
  refine GW_region ?_
  refine GL_rd (v := .int _ _) (wn_none rfl) rfl (rd_assign rfl rfl) ?_
  refine GL_nil ?_
  refine GW_seq ?_
  refine GW_seq ?_
  refine GW_region ?_
  refine GL_rd (v := .slice _ _ _) (wn_none rfl) rfl (rd_move rfl rfl) ?_
  refine GL_rd (wn_none rfl) rfl (rd_len rfl rfl Try.underlying23) ?_
  refine GL_rd (wn_none rfl) rfl (rd_min rfl rfl rfl) ?_
  refine GL_rd (wn_none rfl) rfl (rd_bin rfl rfl rfl (bo_sub64 (by omega))) ?_
  refine GL_rd (v := .int _ _) (wn_none rfl) rfl (rd_assign rfl rfl) ?_
  refine GL_nil ?_
  refine GW_block ?_
  refine GW_loop ?_
  refine Lp_ind (α := Nat) (fun a f w' => match a with | k => ∃ fz, f = (upd (upd (upd fz 0 (.slice A m c)) 3 (.int .u64 (getL ((l.take 8).drop k) : Int))) 4 (.int .i64 ((k : Int) - 1))) ∧ Hp w0 [] w' [] ∧ (k ≤ q)) (fun a => match a with | k => k) ?_ q _ _ ?_
  · rintro k f wz ⟨fz, rfl, hp, hkq⟩ ihL0
    refine Lp_round ?_
    refine GW_seq ?_
    refine GW_seq ?_
    refine GW_region ?_
    refine GL_rd (v := .int _ _) (wn_none rfl) rfl (rd_move rfl rfl) ?_
    refine GL_rd (wn_none rfl) rfl (rd_bin rfl rfl rfl bo_geq) ?_
    refine GL_nil ?_
    refine GW_cond rfl (fun hb => ?_) (fun hb => ?_)
    · (try simp only [decide_eq_true_eq, decide_eq_false_iff_not, Bool.not_eq_true', Bool.not_eq_false', Bool.not_eq_eq_eq_not, Bool.not_true, Bool.not_false, Int.not_lt, Int.not_le] at hb)
      obtain ⟨j, rfl⟩ : ∃ j, k = j + 1 := ⟨k - 1, by omega⟩
      have hgl := getL_lt ((l.take 8).drop (j + 1))
      refine GW_skip ?_
      refine GW_seq ?_
      refine GW_block ?_
      refine GW_region ?_
      refine GL_rd (v := .int _ _) (wn_none rfl) rfl (rd_move rfl rfl) ?_
      refine GL_rd (wn_none rfl) rfl (rd_bin rfl rfl rfl (bo_shl (by decide))) ?_
      refine GL_rd (v := .slice _ _ _) (wn_none rfl) rfl (rd_move rfl rfl) ?_
      refine GL_rd (v := .int _ _) (wn_none rfl) rfl (rd_move rfl rfl) ?_
      obtain ⟨gA, bA, rfl⟩ := hs.addr (by rw [bys_length]; omega)
      refine GL_rd (wn_none rfl) rfl (rd_indexS (j := j) rfl rfl rfl Try.underlying23 ts5 (by omega) (by omega) _ rfl) ?_
      refine GL_rd (wn_none rfl) rfl (rd_load rfl rfl Try.underlying5 rfl (Sl.byte (hs.keep hp.mod) j (by omega))) ?_
      refine GL_rd (wn_none rfl) rfl (rd_conv8 .u64 rfl rfl Try.underlying22 Try.underlying5 (by simp)) ?_
      refine GL_rd (wn_none rfl) rfl (rd_bin rfl rfl rfl (get_or l j (by omega))) ?_
      refine GL_rd (v := .int _ _) (wn_none rfl) rfl (rd_assign rfl rfl) ?_
      refine GL_nil ?_
      refine GW_region ?_
      refine GL_rd (v := .int _ _) (wn_none rfl) rfl (rd_move rfl rfl) ?_
      refine GL_rd (wn_none rfl) rfl (rd_bin rfl rfl rfl (bo_int (bo_sub64 (by omega)) (by omega : ((j + 1 : Nat) : Int) - 1 - 1 = (j : Int) - 1))) ?_
      refine GL_rd (v := .int _ _) (wn_none rfl) rfl (rd_assign rfl rfl) ?_
      refine GL_nil ?_
      exact ihL0 j _ _ (by simp only []; omega) ⟨_, slots3 rfl rfl rfl, hp, (by omega)⟩
    · (try simp only [decide_eq_true_eq, decide_eq_false_iff_not, Bool.not_eq_true', Bool.not_eq_false', Bool.not_eq_eq_eq_not, Bool.not_true, Bool.not_false, Int.not_lt, Int.not_le] at hb)
      obtain rfl : k = 0 := by omega
      rw [List.drop_zero]
      refine GW_exit ?_
      refine GW_seq ?_
      refine GW_region ?_
      refine GL_rd (v := .int _ _) (wn_none rfl) rfl (rd_move rfl rfl) ?_
      refine GL_rd (v := .int _ _) (wn_none rfl) rfl (rd_assign rfl rfl) ?_
      refine GL_nil ?_
      refine GW_ret ?_
      exact ⟨_, res1 Try.results20 (rv_tmp (v := .int _ _) rfl rfl), rfl, hp⟩
  · rw [← hq]
    refine ⟨_, slots3 rfl (by rw [hqt, List.drop_length]; rfl) rfl, hp, Nat.le_refl _⟩

theorem ref_Get : ∀ (k : Nat) (sv : Value) (m : Nat) (l : List UInt8) (w0 : World) (hs : Sl w0 sv 1 m (bys l)) (hkk : m = k), Does Try.prog 21 #[sv] w0 fun v w' => v = .int .u64 (getL (l.take 8) : Int) ∧ Hp w0 [] w' [] := by
  intro k
  induction k using Nat.strongRecOn with
  | _ k ih =>
    intro sv m l w0 hs hkk
    obtain ⟨A, c, rfl⟩ := sl_shape hs
    have hml := hs.blen
    have hmle := hs.le
    refine does_of (l := [.slice A m c]) Try.func21 (by kernel_rfl) rfl Try.ntmps21 rfl rfl ?_
    have hp := Hp.refl w0 []
    refine GW_seq ?_
    refine GW_region ?_
    refine GL_rd (v := .int _ _) (wn_none rfl) rfl (rd_assign rfl rfl) ?_
    refine GL_nil ?_
    refine GW_seq ?_
    refine GW_seq ?_
    refine GW_region ?_
    refine GL_rd (v := .slice _ _ _) (wn_none rfl) rfl (rd_move rfl rfl) ?_
    refine GL_rd (wn_none rfl) rfl (rd_len rfl rfl Try.underlying23) ?_
    refine GL_rd (wn_none rfl) rfl (rd_bin rfl rfl rfl bo_eql) ?_
    refine GL_nil ?_
    refine GW_cond rfl (fun hb => ?_) (fun hb => ?_)
    · (try simp only [decide_eq_true_eq, decide_eq_false_iff_not, Bool.not_eq_true', Bool.not_eq_false', Bool.not_eq_eq_eq_not, Bool.not_true, Bool.not_false, Int.not_lt, Int.not_le] at hb)
      obtain rfl : l = [] := List.eq_nil_of_length_eq_zero (by omega)
      refine GW_seq ?_
      refine GW_region ?_
      refine GL_rd (v := .int _ _) (wn_none rfl) rfl (rd_assign rfl rfl) ?_
      refine GL_nil ?_
      refine GW_ret ?_
      exact ⟨_, res1 Try.results21 (rv_tmp (v := .int _ _) rfl rfl), rfl, hp⟩
    · (try simp only [decide_eq_true_eq, decide_eq_false_iff_not, Bool.not_eq_true', Bool.not_eq_false', Bool.not_eq_eq_eq_not, Bool.not_true, Bool.not_false, Int.not_lt, Int.not_le] at hb)
      obtain ⟨b, r, rfl⟩ : ∃ b r, l = b :: r := by cases l with | nil => simp at hml; omega | cons b r => exact ⟨b, r, rfl⟩
      refine GW_skip ?_
      refine GW_seq ?_
      refine GW_seq ?_
      refine GW_region ?_
      refine GL_rd (v := .slice _ _ _) (wn_none rfl) rfl (rd_move rfl rfl) ?_
      refine GL_rd (wn_none rfl) rfl (rd_len rfl rfl Try.underlying23) ?_
      refine GL_rd (wn_none rfl) rfl (rd_bin rfl rfl rfl bo_gtr) ?_
      refine GL_nil ?_
      refine GW_cond rfl (fun hb2 => ?_) (fun hb2 => ?_)
      · (try simp only [decide_eq_true_eq, decide_eq_false_iff_not, Bool.not_eq_true', Bool.not_eq_false', Bool.not_eq_eq_eq_not, Bool.not_true, Bool.not_false, Int.not_lt, Int.not_le] at hb2)
        refine GW_seq ?_
        refine GW_region ?_
        refine GL_rd (v := .slice _ _ _) (wn_none rfl) rfl (rd_move rfl rfl) ?_
        refine GL_rd (wn_none rfl) rfl (rd_sliceS (lo := 0) (hi := 8) rfl rfl Try.underlying23 ts5 at_none (at_some rfl rfl) (by omega) (by have := (Sl.cap hs).1; omega)) ?_
        refine GL_call (wn_none rfl) rfl rfl (ih 8 (by omega) _ 8 _ _ (Sl.cutB (hs.keep hp.mod) 0 8 (by omega) (by omega)) rfl) rfl ?_
        rintro _ w ⟨rfl, hk⟩
        have hp := hp.comp hk
        refine GL_rd (v := .int _ _) (wn_none rfl) rfl (rd_assign rfl rfl) ?_
        refine GL_nil ?_
        refine GW_ret ?_
        exact ⟨_, res1 Try.results21 (rv_tmp (v := .int _ _) rfl rfl), by simp [List.take_take], hp⟩
      · (try simp only [decide_eq_true_eq, decide_eq_false_iff_not, Bool.not_eq_true', Bool.not_eq_false', Bool.not_eq_eq_eq_not, Bool.not_true, Bool.not_false, Int.not_lt, Int.not_le] at hb2)
        refine GW_skip ?_
        refine GW_seq ?_
        refine GW_drawnK 10 (.one 0 true (.one 1 true (.one 2 true (.one 3 true (.one 4 true (.one 5 true (.one 6 false (.one 7 true (.one 8 true (.one 9 true .nil)))))))))) mixed (by kernel_rfl) hp (fun _ h => h) fun w hp => ?_
        have hpS := hp
        refine GO_rd (v := .slice _ _ _) rfl (wn_none rfl) rfl hpS (fun w hp => (rd_move rfl rfl)) ?_
        obtain ⟨gA, bA, rfl⟩ := hs.addr (by rw [bys_length]; omega)
        refine GO_rd rfl (wn_none rfl) rfl hpS (fun w hp => (rd_indexS (j := 0) rfl rfl rfl Try.underlying23 ts5 rfl (by omega) _ rfl)) ?_
        refine GO_rd rfl (wn_none rfl) rfl hpS (fun w hp => (rd_load rfl rfl Try.underlying5 rfl (Sl.byte (hs.keep hp.mod) 0 (by omega)))) ?_
        refine GO_rd rfl (wn_none rfl) rfl hpS (fun w hp => (rd_conv8 .u64 rfl rfl Try.underlying22 Try.underlying5 (by simp))) ?_
        refine GO_rd (v := .slice _ _ _) rfl (wn_none rfl) rfl hpS (fun w hp => (rd_move rfl rfl)) ?_
        refine GO_rd rfl (wn_none rfl) rfl hpS (fun w hp => (rd_sliceS (lo := 1) (hi := m) rfl rfl Try.underlying23 ts5 (at_some rfl rfl) to_none (by omega) (by have := (Sl.cap hs).1; omega))) ?_
        refine GO_of_GL rfl ?_
        refine GL_call (wn_none rfl) rfl rfl (ih (m - 1) (by omega) _ (m - 1) _ _ (Sl.cutB (hs.keep hp.mod) 1 m (by omega) (by omega)) rfl) rfl ?_
        rintro _ w ⟨rfl, hk⟩
        have hp := hp.comp hk
        rw [show ((b :: r).drop 1).take (m - 1) = r from List.take_of_length_le (by simp only [List.length_cons] at hml; simp only [List.drop_succ_cons, List.drop_zero]; omega)]
        have hpS2 := hp
        refine GL_nil ⟨fun _ => hpS2, ?_⟩
        refine GO_rd rfl (wn_none rfl) rfl hpS2 (fun w hp => (rd_bin rfl rfl rfl (bo_mul))) ?_
        refine GO_rd rfl (wn_none rfl) rfl hpS2 (fun w hp => (rd_bin rfl rfl rfl (get_add b r (by simp only [List.length_cons] at hml; omega)))) ?_
        refine GO_rd (v := .int _ _) rfl (wn_none rfl) rfl hpS2 (fun w hp => (rd_assign rfl rfl)) ?_
        refine GO_nil ?_
        refine GW_ret ?_
        exact ⟨_, res1 Try.results21 (rv_tmp (v := .int _ _) rfl rfl), rfl, hp⟩

theorem word_Zero (sv : Value) (m : Nat) (l : List UInt8) (w0 : World) (hs : Sl w0 sv 1 m (bys l)) : Does Try.prog 27 #[sv] w0 fun v w' => v = .bool (zeroL l) ∧ Hp w0 [] w' [] := by
  obtain ⟨A, c, rfl⟩ := sl_shape hs
  have hml := hs.blen
  have hmle := hs.le
  refine does_of (l := [.slice A m c]) Try.func27 (by kernel_rfl) rfl Try.ntmps27 rfl rfl ?_
  have hp := Hp.refl w0 []
  refine GW_seq ?_
  refine GW_region ?_
  refine GL_rd (v := .bool _) (wn_none rfl) rfl (rd_assign rfl rfl) ?_
  refine GL_nil ?_
  refine GW_seq ?_
  refine GW_seq ?_
  refine GW_region ?_
  refine GL_rd (v := .slice _ _ _) (wn_none rfl) rfl (rd_move rfl rfl) ?_
  refine GL_rd (wn_none rfl) rfl (rd_len rfl rfl Try.underlying23) ?_
  refine GL_rd (v := .int _ _) (wn_none rfl) rfl (rd_move rfl rfl) ?_
  refine GL_nil ?_
  refine GW_block ?_
  refine GW_loop ?_
  refine Lp_ind (α := Nat) (fun a f w' => match a with | k => ∃ fz, f = (upd (upd (upd fz 5 (.slice A m c)) 6 (.int .i64 (m : Int))) 7 (.int .i64 (k : Int))) ∧ Hp w0 [] w' [] ∧ (k ≤ m) ∧ (zeroL (l.take k) = true)) (fun a => match a with | k => m - k) ?_ 0 _ _ ?_
  · rintro k f wz ⟨fz, rfl, hp, hk, hz⟩ ihL0
    refine Lp_round ?_
    refine GW_seq ?_
    refine GW_region ?_
    refine GL_rd (wn_none rfl) rfl (rd_bin rfl rfl rfl bo_lss) ?_
    refine GL_nil ?_
    refine GW_seq ?_
    refine GW_cond rfl (fun hb => ?_) (fun hb => ?_)
    · (try simp only [decide_eq_true_eq, decide_eq_false_iff_not, Bool.not_eq_true', Bool.not_eq_false', Bool.not_eq_eq_eq_not, Bool.not_true, Bool.not_false, Int.not_lt, Int.not_le] at hb)
      refine GW_skip ?_
      refine GW_seq ?_
      refine GW_block ?_
      refine GW_seq ?_
      refine GW_region ?_
      obtain ⟨gA, bA, rfl⟩ := hs.addr (by rw [bys_length]; omega)
      refine GL_rd (wn_none rfl) rfl (rd_indexS (j := k) rfl rfl rfl Try.underlying23 ts5 rfl (by omega) _ rfl) ?_
      refine GL_rd (wn_none rfl) rfl (rd_load rfl rfl Try.underlying5 rfl (Sl.byte (hs.keep hp.mod) k (by omega))) ?_
      refine GL_rd (v := .int _ _) (wn_none rfl) rfl (rd_assign rfl rfl) ?_
      refine GL_nil ?_
      refine GW_seq ?_
      refine GW_region ?_
      refine GL_rd (v := .int _ _) (wn_none rfl) rfl (rd_move rfl rfl) ?_
      refine GL_rd (wn_none rfl) rfl (rd_bin rfl rfl rfl bo_neq) ?_
      refine GL_nil ?_
      refine GW_cond rfl (fun hb2 => ?_) (fun hb2 => ?_)
      · (try simp only [decide_eq_true_eq, decide_eq_false_iff_not, Bool.not_eq_true', Bool.not_eq_false', Bool.not_eq_eq_eq_not, Bool.not_true, Bool.not_false, Int.not_lt, Int.not_le] at hb2)
        refine GW_seq ?_
        refine GW_region ?_
        refine GL_rd (v := .bool _) (wn_none rfl) rfl (rd_assign rfl rfl) ?_
        refine GL_nil ?_
        refine GW_ret ?_
        exact ⟨_, res1 Try.results27 (rv_tmp (v := .bool _) rfl rfl), by rw [zeroL_no (k := k) (by omega) (fun e => hb2 ((u8_zero _).2 e))], hp⟩
      · (try simp only [decide_eq_true_eq, decide_eq_false_iff_not, Bool.not_eq_true', Bool.not_eq_false', Bool.not_eq_eq_eq_not, Bool.not_true, Bool.not_false, Int.not_lt, Int.not_le] at hb2)
        refine GW_skip ?_
        refine GW_region ?_
        refine GL_rd (wn_none rfl) rfl (rd_bin rfl rfl rfl (bo_add64 (by omega))) ?_
        refine GL_rd (v := .int _ _) (wn_none rfl) rfl (rd_move rfl rfl) ?_
        refine GL_nil ?_
        exact ihL0 (k + 1) _ _ (by simp only []; omega) ⟨_, slots3 rfl rfl rfl, hp, (by omega), zeroL_take hz (by omega) ((u8_zero _).1 hb2)⟩
    · (try simp only [decide_eq_true_eq, decide_eq_false_iff_not, Bool.not_eq_true', Bool.not_eq_false', Bool.not_eq_eq_eq_not, Bool.not_true, Bool.not_false, Int.not_lt, Int.not_le] at hb)
      refine GW_exit ?_
      refine GW_seq ?_
      refine GW_region ?_
      refine GL_rd (v := .bool _) (wn_none rfl) rfl (rd_assign rfl rfl) ?_
      refine GL_nil ?_
      refine GW_ret ?_
      obtain rfl : k = m := by omega
      rw [List.take_of_length_le (by omega)] at hz
      exact ⟨_, res1 Try.results27 (rv_tmp (v := .bool _) rfl rfl), by rw [hz], hp⟩
  · refine ⟨_, slots3 rfl rfl rfl, hp, Nat.zero_le _, rfl⟩

theorem ref_Zero (sv : Value) (m : Nat) (l : List UInt8) (w0 : World) (hs : Sl w0 sv 1 m (bys l)) : Does Try.prog 28 #[sv] w0 fun v w' => v = .bool (zeroL l) ∧ Hp w0 [] w' [] := by
  obtain ⟨A, c, rfl⟩ := sl_shape hs
  have hml := hs.blen
  have hmle := hs.le
  refine does_of (l := [.slice A m c]) Try.func28 (by kernel_rfl) rfl Try.ntmps28 rfl rfl ?_
  have hp := Hp.refl w0 []
  refine GW_seq ?_
  refine GW_region ?_
  refine GL_rd (v := .bool _) (wn_none rfl) rfl (rd_assign rfl rfl) ?_
  refine GL_nil ?_
  refine GW_seq ?_
  refine GW_seq ?_
  refine GW_region ?_
  refine GL_rd (v := .int _ _) (wn_none rfl) rfl (rd_assign rfl rfl) ?_
  refine GL_nil ?_
  refine GW_block ?_
  refine GW_loop ?_
  refine Lp_ind (α := Nat) (fun a f w' => match a with | k => ∃ fz, f = (upd (upd fz 0 (.slice A m c)) 3 (.int .i64 (k : Int))) ∧ Hp w0 [] w' [] ∧ (k ≤ m) ∧ (zeroL (l.take k) = true)) (fun a => match a with | k => m - k) ?_ 0 _ _ ?_
  · rintro k f wz ⟨fz, rfl, hp, hk, hz⟩ ihL0
    refine Lp_round ?_
    refine GW_seq ?_
    refine GW_seq ?_
    refine GW_region ?_
    refine GL_rd (v := .int _ _) (wn_none rfl) rfl (rd_move rfl rfl) ?_
    refine GL_rd (v := .slice _ _ _) (wn_none rfl) rfl (rd_move rfl rfl) ?_
    refine GL_rd (wn_none rfl) rfl (rd_len rfl rfl Try.underlying23) ?_
    refine GL_rd (wn_none rfl) rfl (rd_bin rfl rfl rfl bo_lss) ?_
    refine GL_nil ?_
    refine GW_cond rfl (fun hb => ?_) (fun hb => ?_)
    · (try simp only [decide_eq_true_eq, decide_eq_false_iff_not, Bool.not_eq_true', Bool.not_eq_false', Bool.not_eq_eq_eq_not, Bool.not_true, Bool.not_false, Int.not_lt, Int.not_le] at hb)
      refine GW_skip ?_
      refine GW_seq ?_
      refine GW_block ?_
      refine GW_seq ?_
      refine GW_region ?_
      refine GL_rd (v := .slice _ _ _) (wn_none rfl) rfl (rd_move rfl rfl) ?_
      refine GL_rd (v := .int _ _) (wn_none rfl) rfl (rd_move rfl rfl) ?_
      obtain ⟨gA, bA, rfl⟩ := hs.addr (by rw [bys_length]; omega)
      refine GL_rd (wn_none rfl) rfl (rd_indexS (j := k) rfl rfl rfl Try.underlying23 ts5 rfl (by omega) _ rfl) ?_
      refine GL_rd (wn_none rfl) rfl (rd_load rfl rfl Try.underlying5 rfl (Sl.byte (hs.keep hp.mod) k (by omega))) ?_
      refine GL_rd (wn_none rfl) rfl (rd_bin rfl rfl rfl bo_gtr) ?_
      refine GL_nil ?_
      refine GW_cond rfl (fun hb2 => ?_) (fun hb2 => ?_)
      · (try simp only [decide_eq_true_eq, decide_eq_false_iff_not, Bool.not_eq_true', Bool.not_eq_false', Bool.not_eq_eq_eq_not, Bool.not_true, Bool.not_false, Int.not_lt, Int.not_le] at hb2)
        refine GW_seq ?_
        refine GW_region ?_
        refine GL_rd (v := .bool _) (wn_none rfl) rfl (rd_assign rfl rfl) ?_
        refine GL_nil ?_
        refine GW_ret ?_
        exact ⟨_, res1 Try.results28 (rv_tmp (v := .bool _) rfl rfl), by rw [zeroL_no (k := k) (by omega) (fun e => by rw [e] at hb2; simp at hb2)], hp⟩
      · (try simp only [decide_eq_true_eq, decide_eq_false_iff_not, Bool.not_eq_true', Bool.not_eq_false', Bool.not_eq_eq_eq_not, Bool.not_true, Bool.not_false, Int.not_lt, Int.not_le] at hb2)
        refine GW_skip ?_
        refine GW_region ?_
        refine GL_rd (v := .int _ _) (wn_none rfl) rfl (rd_move rfl rfl) ?_
        refine GL_rd (wn_none rfl) rfl (rd_bin rfl rfl rfl (bo_add64 (by omega))) ?_
        refine GL_rd (v := .int _ _) (wn_none rfl) rfl (rd_assign rfl rfl) ?_
        refine GL_nil ?_
        exact ihL0 (k + 1) _ _ (by simp only []; omega) ⟨_, slots2 rfl rfl, hp, (by omega), zeroL_take hz (by omega) ((u8_zero _).1 (by omega))⟩
    · (try simp only [decide_eq_true_eq, decide_eq_false_iff_not, Bool.not_eq_true', Bool.not_eq_false', Bool.not_eq_eq_eq_not, Bool.not_true, Bool.not_false, Int.not_lt, Int.not_le] at hb)
      refine GW_exit ?_
      refine GW_seq ?_
      refine GW_region ?_
      refine GL_rd (v := .bool _) (wn_none rfl) rfl (rd_assign rfl rfl) ?_
      refine GL_nil ?_
      refine GW_ret ?_
      obtain rfl : k = m := by omega
      rw [List.take_of_length_le (by omega)] at hz
      exact ⟨_, res1 Try.results28 (rv_tmp (v := .bool _) rfl rfl), by rw [hz], hp⟩
  · refine ⟨_, slots2 rfl rfl, hp, Nat.zero_le _, rfl⟩

theorem word_Whole (sv : Value) (m : Nat) (l : List UInt8) (w0 : World) (hs : Sl w0 sv 1 m (bys l)) : Does Try.prog 26 #[sv] w0 fun v w' => v = .agg ⟨bys (wholeL l)⟩ ∧ Hp w0 [] w' [] := by
  have hml := hs.blen
  have hlen := wholeL_length l
  refine does_of (l := [sv]) Try.func26 (by kernel_rfl) rfl Try.ntmps26 rfl rfl ?_
  have hp := Hp.refl w0 []
  refine GW_seq ?_
  refine GW_region ?_
  refine GL_alloc (wn_none rfl) rfl rfl tz35 rfl hp ?_
  intro g w hp
  refine GL_nil ?_
  refine GW_seq ?_
  refine GW_region ?_
  refine GL_alloc (wn_none rfl) rfl rfl tz35 rfl hp ?_
  intro g2 w hp
  refine GL_nil ?_
  refine GW_seq ?_
  refine GW_region ?_
  refine GL_rd (wn_none rfl) rfl (rd_sliceA (lo := 0) (hi := 256) rfl rfl Try.underlying35 ts5 at_none to_none (by decide) (by decide) (by decide) _ rfl) ?_
  refine GL_rd (v := sv) (wn_none rfl) rfl (rd_move rfl rfl) ?_
  refine GL_copy (i := 0) (wn_none rfl) rfl rfl rfl rfl Try.underlying23 ts5 hp rfl (hs.keep hp.mod) (bys_take _ _) (by rw [bys_length, List.length_replicate, List.length_take]; omega) (bys_one _) (whole_splice l) ?_
  intro w hp
  refine GL_nil ?_
  refine GW_seq ?_
  refine GW_region ?_
  refine GL_rd (wn_none rfl) rfl (rd_loadN (L := bys (wholeL l)) rfl rfl Try.underlying35 rfl ts35 (by rw [bys_length, hlen]) (fun j u hj => by rw [Nat.zero_add]; exact (cell_of_cells (hp.get 0 rfl) j).trans hj)) ?_
  refine GL_store (i := 1) (wn_none rfl) rfl rfl rfl rfl ts35 rfl (by rw [bys_length, hlen]) (bys_one _) hp rfl (by rw [List.length_replicate]; omega) (splice_all _ _ (by rw [bys_length, hlen, List.length_replicate])) ?_
  intro w hp
  refine GL_nil ?_
  refine GW_ret ?_
  exact ⟨_, res1 Try.results26 (rv_cell rfl rfl Try.underlying35 rfl ts35 (by rw [bys_length, hlen]) (hp.get 1 rfl)), rfl, hp.mods⟩

theorem word_Pad (s : ByteArray) (size : Int) (w0 : World) (hs : s.size ≤ 140737488351232) : Does Try.prog 22 #[.string s, .int .i64 size] w0 fun v w' => ∃ tv, v = .tuple #[tv, .int .i64 (padC s.size size)] ∧ Hp w0 [] w' [.row 5 1 tv (padL s.data.toList size).length (bys (padL s.data.toList size))] := by
  have hsl : s.data.toList.length = s.size := rfl
  obtain ⟨m, hm⟩ : ∃ m : Nat, m = size.toNat := ⟨_, rfl⟩
  refine does_of (l := [.string s, .int .i64 size]) Try.func22 (by kernel_rfl) rfl Try.ntmps22 rfl rfl ?_
  have hp := Hp.refl w0 []
  refine GW_seq ?_
  refine GW_region ?_
  refine GL_rd (v := .slice _ _ _) (wn_none rfl) rfl (rd_assign rfl rfl) ?_
  refine GL_rd (v := .int _ _) (wn_none rfl) rfl (rd_assign rfl rfl) ?_
  refine GL_nil ?_
  refine GW_seq ?_
  refine GW_seq ?_
  refine GW_region ?_
  refine GL_rd (v := .int _ _) (wn_none rfl) rfl (rd_move rfl rfl) ?_
  refine GL_rd (wn_none rfl) rfl (rd_bin rfl rfl rfl bo_lss) ?_
  refine GL_rd (v := .bool _) (wn_none rfl) rfl (rd_move rfl rfl) ?_
  refine GL_split (t := 9) (b := _) rfl ?_ ?_
  · intro hb; (try simp only [decide_eq_true_eq, decide_eq_false_iff_not, Bool.not_eq_true', Bool.not_eq_false', Bool.not_eq_eq_eq_not, Bool.not_true, Bool.not_false, Int.not_lt, Int.not_le] at hb)
    refine GL_pass (nw_off rfl rfl rfl rfl rfl) rfl ?_
    refine GL_pass (nw_off rfl rfl rfl rfl rfl) rfl ?_
    refine GL_rd (v := .bool _) (wn_none rfl) rfl (rd_pickT rfl rfl rfl) ?_
    refine GL_nil ?_
    refine GW_true rfl ?_
    refine GW_seq ?_
    refine GW_region ?_
    refine GL_rd (v := .slice _ _ _) (wn_none rfl) rfl (rd_assign rfl rfl) ?_
    refine GL_rd (v := .int _ _) (wn_none rfl) rfl (rd_assign rfl rfl) ?_
    refine GL_nil ?_
    refine GW_ret ?_
    have e1 : padOk s.data.toList.length size = false := by rw [hsl]; simp only [padOk, decide_eq_false_iff_not]; omega
    have e2 : padC s.size size = 2 := by unfold padC; (repeat' split) <;> omega
    refine ⟨_, res2 Try.results22 (rv_tmp (v := .slice _ _ _) rfl rfl) (rv_tmp (v := .int _ _) rfl rfl), .slice none 0 0, by rw [e2], ?_⟩
    rw [padL_no e1]
    exact hp.nilRow _ _
  · intro hb; (try simp only [decide_eq_true_eq, decide_eq_false_iff_not, Bool.not_eq_true', Bool.not_eq_false', Bool.not_eq_eq_eq_not, Bool.not_true, Bool.not_false, Int.not_lt, Int.not_le] at hb)
    refine GL_rd (v := .int _ _) (wn_on rfl rfl rfl rfl) rfl (rd_move rfl rfl) ?_
    refine GL_rd (wn_on rfl rfl rfl rfl) rfl (rd_bin rfl rfl rfl bo_gtr) ?_
    refine GL_rd (v := .bool _) (wn_none rfl) rfl (rd_pickF rfl rfl rfl) ?_
    refine GL_nil ?_
    refine GW_cond rfl (fun hb2 => ?_) (fun hb2 => ?_)
    · (try simp only [decide_eq_true_eq, decide_eq_false_iff_not, Bool.not_eq_true', Bool.not_eq_false', Bool.not_eq_eq_eq_not, Bool.not_true, Bool.not_false, Int.not_lt, Int.not_le] at hb2)
      refine GW_seq ?_
      refine GW_region ?_
      refine GL_rd (v := .slice _ _ _) (wn_none rfl) rfl (rd_assign rfl rfl) ?_
      refine GL_rd (v := .int _ _) (wn_none rfl) rfl (rd_assign rfl rfl) ?_
      refine GL_nil ?_
      refine GW_ret ?_
      have e1 : padOk s.data.toList.length size = false := by rw [hsl]; simp only [padOk, decide_eq_false_iff_not]; omega
      have e2 : padC s.size size = 2 := by unfold padC; (repeat' split) <;> omega
      refine ⟨_, res2 Try.results22 (rv_tmp (v := .slice _ _ _) rfl rfl) (rv_tmp (v := .int _ _) rfl rfl), .slice none 0 0, by rw [e2], ?_⟩
      rw [padL_no e1]
      exact hp.nilRow _ _
    · (try simp only [decide_eq_true_eq, decide_eq_false_iff_not, Bool.not_eq_true', Bool.not_eq_false', Bool.not_eq_eq_eq_not, Bool.not_true, Bool.not_false, Int.not_lt, Int.not_le] at hb2)
      refine GW_skip ?_
      refine GW_seq ?_
      refine GW_seq ?_
      refine GW_region ?_
      refine GL_rd (v := .string _) (wn_none rfl) rfl (rd_move rfl rfl) ?_
      refine GL_rd (wn_none rfl) rfl (rd_lenS rfl rfl Try.underlying9) ?_
      refine GL_rd (v := .int _ _) (wn_none rfl) rfl (rd_move rfl rfl) ?_
      refine GL_rd (wn_none rfl) rfl (rd_bin rfl rfl rfl (bo_sub64 (by omega))) ?_
      refine GL_rd (wn_none rfl) rfl (rd_bin rfl rfl rfl bo_gtr) ?_
      refine GL_nil ?_
      refine GW_cond rfl (fun hb3 => ?_) (fun hb3 => ?_)
      · (try simp only [decide_eq_true_eq, decide_eq_false_iff_not, Bool.not_eq_true', Bool.not_eq_false', Bool.not_eq_eq_eq_not, Bool.not_true, Bool.not_false, Int.not_lt, Int.not_le] at hb3)
        refine GW_seq ?_
        refine GW_region ?_
        refine GL_rd (v := .slice _ _ _) (wn_none rfl) rfl (rd_assign rfl rfl) ?_
        refine GL_rd (v := .int _ _) (wn_none rfl) rfl (rd_assign rfl rfl) ?_
        refine GL_nil ?_
        refine GW_ret ?_
        have e1 : padOk s.data.toList.length size = false := by rw [hsl]; simp only [padOk, decide_eq_false_iff_not]; omega
        have e2 : padC s.size size = 15 := by unfold padC; (repeat' split) <;> omega
        refine ⟨_, res2 Try.results22 (rv_tmp (v := .slice _ _ _) rfl rfl) (rv_tmp (v := .int _ _) rfl rfl), .slice none 0 0, by rw [e2], ?_⟩
        rw [padL_no e1]
        exact hp.nilRow _ _
      · (try simp only [decide_eq_true_eq, decide_eq_false_iff_not, Bool.not_eq_true', Bool.not_eq_false', Bool.not_eq_eq_eq_not, Bool.not_true, Bool.not_false, Int.not_lt, Int.not_le] at hb3)
        refine GW_skip ?_
        refine GW_seq ?_
        refine GW_region ?_
        refine GL_rd (v := .int _ _) (wn_none rfl) rfl (rd_move rfl rfl) ?_
        refine GL_make (m := m) (wn_none rfl) rfl rfl rfl Try.underlying23 ti5 rfl (by omega) (by omega) (by omega) hp ?_
        intro g w hp
        refine GL_rd (v := .slice _ _ _) (wn_none rfl) rfl (rd_assign rfl rfl) ?_
        refine GL_nil ?_
        refine GW_seq ?_
        refine GW_region ?_
        refine GL_rd (v := .slice _ _ _) (wn_none rfl) rfl (rd_move rfl rfl) ?_
        refine GL_rd (v := .string _) (wn_none rfl) rfl (rd_move rfl rfl) ?_
        refine GL_rd (wn_none rfl) rfl (rd_lenS rfl rfl Try.underlying9) ?_
        refine GL_rd (wn_none rfl) rfl (rd_conv rfl rfl Try.underlying5 Try.underlying3 (by simp)) ?_
        refine GL_rd (wn_none rfl) rfl (rd_indexS (j := 0) rfl rfl rfl Try.underlying23 ts5 rfl (by omega) _ rfl) ?_
        refine GL_storeR (i := 0) (wn_none rfl) rfl rfl rfl rfl ts5 rfl rfl (one1 rfl) hp rfl rfl (by rw [List.length_replicate]; omega) (pad_first s.size m (by omega)) ?_
        intro w hp
        refine GL_nil ?_
        refine GW_seq ?_
        refine GW_region ?_
        refine GL_rd (v := .slice _ _ _) (wn_none rfl) rfl (rd_move rfl rfl) ?_
        refine GL_rd (wn_none rfl) rfl (rd_sliceR (lo := 1) (hi := m) rfl rfl Try.underlying23 ts5 (at_some rfl rfl) to_none (by omega) (by omega) _ rfl) ?_
        refine GL_rd (v := .string _) (wn_none rfl) rfl (rd_move rfl rfl) ?_
        refine GL_copyS (i := 0) (wn_none rfl) rfl rfl rfl rfl Try.underlying23 ts5 hp rfl rfl (by omega) rfl (by simp only [bys_length, List.length_cons, List.length_replicate]; split <;> omega) (pad_copy _ _ m (by omega)) ?_
        intro w hp
        refine GL_nil ?_
        refine GW_seq ?_
        refine GW_region ?_
        refine GL_rd (v := .slice _ _ _) (wn_none rfl) rfl (rd_move rfl rfl) ?_
        refine GL_rd (v := .slice _ _ _) (wn_none rfl) rfl (rd_assign rfl rfl) ?_
        refine GL_rd (v := .int _ _) (wn_none rfl) rfl (rd_assign rfl rfl) ?_
        refine GL_nil ?_
        refine GW_ret ?_
        have e1 : padOk s.data.toList.length size = true := by rw [hsl]; simp only [padOk, decide_eq_true_eq]; omega
        have e2 : padC s.size size = 0 := by unfold padC; (repeat' split) <;> omega
        have e3 := padL_length _ _ e1
        refine ⟨_, res2 Try.results22 (rv_tmp (v := .slice _ _ _) rfl rfl) (rv_tmp (v := .int _ _) rfl rfl), _, by rw [e2], ?_⟩
        rw [e3, padL_yes e1]
        rw [← hm]
        exact hp

theorem ref_Pad (s : ByteArray) (size : Int) (w0 : World) (hs : s.size ≤ 140737488351232) : Does Try.prog 23 #[.string s, .int .i64 size] w0 fun v w' => ∃ tv, v = .tuple #[tv, .int .i64 (padC s.size size)] ∧ Hp w0 [] w' [.row 5 1 tv (padL s.data.toList size).length (bys (padL s.data.toList size))] := by
  have hsl : s.data.toList.length = s.size := rfl
  obtain ⟨m, hm⟩ : ∃ m : Nat, m = size.toNat := ⟨_, rfl⟩
  refine does_of (l := [.string s, .int .i64 size]) Try.func23 (by kernel_rfl) rfl Try.ntmps23 rfl rfl ?_
  have hp := Hp.refl w0 []
  refine GW_seq ?_
  refine GW_region ?_
  refine GL_rd (v := .slice _ _ _) (wn_none rfl) rfl (rd_assign rfl rfl) ?_
  refine GL_rd (v := .int _ _) (wn_none rfl) rfl (rd_assign rfl rfl) ?_
  refine GL_nil ?_
  refine GW_seq ?_
  refine GW_seq ?_
  refine GW_region ?_
  refine GL_rd (v := .int _ _) (wn_none rfl) rfl (rd_move rfl rfl) ?_
  refine GL_rd (wn_none rfl) rfl (rd_bin rfl rfl rfl bo_lss) ?_
  refine GL_rd (v := .bool _) (wn_none rfl) rfl (rd_move rfl rfl) ?_
  refine GL_split (t := 9) (b := _) rfl ?_ ?_
  · intro hb; (try simp only [decide_eq_true_eq, decide_eq_false_iff_not, Bool.not_eq_true', Bool.not_eq_false', Bool.not_eq_eq_eq_not, Bool.not_true, Bool.not_false, Int.not_lt, Int.not_le] at hb)
    refine GL_pass (nw_off rfl rfl rfl rfl rfl) rfl ?_
    refine GL_pass (nw_off rfl rfl rfl rfl rfl) rfl ?_
    refine GL_rd (v := .bool _) (wn_none rfl) rfl (rd_pickT rfl rfl rfl) ?_
    refine GL_nil ?_
    refine GW_true rfl ?_
    refine GW_seq ?_
    refine GW_region ?_
    refine GL_rd (v := .slice _ _ _) (wn_none rfl) rfl (rd_assign rfl rfl) ?_
    refine GL_rd (v := .int _ _) (wn_none rfl) rfl (rd_assign rfl rfl) ?_
    refine GL_nil ?_
    refine GW_ret ?_
    have e1 : padOk s.data.toList.length size = false := by rw [hsl]; simp only [padOk, decide_eq_false_iff_not]; omega
    have e2 : padC s.size size = 2 := by unfold padC; (repeat' split) <;> omega
    refine ⟨_, res2 Try.results23 (rv_tmp (v := .slice _ _ _) rfl rfl) (rv_tmp (v := .int _ _) rfl rfl), .slice none 0 0, by rw [e2], ?_⟩
    rw [padL_no e1]
    exact hp.nilRow _ _
  · intro hb; (try simp only [decide_eq_true_eq, decide_eq_false_iff_not, Bool.not_eq_true', Bool.not_eq_false', Bool.not_eq_eq_eq_not, Bool.not_true, Bool.not_false, Int.not_lt, Int.not_le] at hb)
    refine GL_rd (v := .int _ _) (wn_on rfl rfl rfl rfl) rfl (rd_move rfl rfl) ?_
    refine GL_rd (wn_on rfl rfl rfl rfl) rfl (rd_bin rfl rfl rfl bo_gtr) ?_
    refine GL_rd (v := .bool _) (wn_none rfl) rfl (rd_pickF rfl rfl rfl) ?_
    refine GL_nil ?_
    refine GW_cond rfl (fun hb2 => ?_) (fun hb2 => ?_)
    · (try simp only [decide_eq_true_eq, decide_eq_false_iff_not, Bool.not_eq_true', Bool.not_eq_false', Bool.not_eq_eq_eq_not, Bool.not_true, Bool.not_false, Int.not_lt, Int.not_le] at hb2)
      refine GW_seq ?_
      refine GW_region ?_
      refine GL_rd (v := .slice _ _ _) (wn_none rfl) rfl (rd_assign rfl rfl) ?_
      refine GL_rd (v := .int _ _) (wn_none rfl) rfl (rd_assign rfl rfl) ?_
      refine GL_nil ?_
      refine GW_ret ?_
      have e1 : padOk s.data.toList.length size = false := by rw [hsl]; simp only [padOk, decide_eq_false_iff_not]; omega
      have e2 : padC s.size size = 2 := by unfold padC; (repeat' split) <;> omega
      refine ⟨_, res2 Try.results23 (rv_tmp (v := .slice _ _ _) rfl rfl) (rv_tmp (v := .int _ _) rfl rfl), .slice none 0 0, by rw [e2], ?_⟩
      rw [padL_no e1]
      exact hp.nilRow _ _
    · (try simp only [decide_eq_true_eq, decide_eq_false_iff_not, Bool.not_eq_true', Bool.not_eq_false', Bool.not_eq_eq_eq_not, Bool.not_true, Bool.not_false, Int.not_lt, Int.not_le] at hb2)
      refine GW_skip ?_
      refine GW_seq ?_
      refine GW_seq ?_
      refine GW_region ?_
      refine GL_rd (v := .string _) (wn_none rfl) rfl (rd_move rfl rfl) ?_
      refine GL_rd (wn_none rfl) rfl (rd_lenS rfl rfl Try.underlying9) ?_
      refine GL_rd (v := .int _ _) (wn_none rfl) rfl (rd_move rfl rfl) ?_
      refine GL_rd (wn_none rfl) rfl (rd_bin rfl rfl rfl (bo_sub64 (by omega))) ?_
      refine GL_rd (wn_none rfl) rfl (rd_bin rfl rfl rfl bo_gtr) ?_
      refine GL_nil ?_
      refine GW_cond rfl (fun hb3 => ?_) (fun hb3 => ?_)
      · (try simp only [decide_eq_true_eq, decide_eq_false_iff_not, Bool.not_eq_true', Bool.not_eq_false', Bool.not_eq_eq_eq_not, Bool.not_true, Bool.not_false, Int.not_lt, Int.not_le] at hb3)
        refine GW_seq ?_
        refine GW_region ?_
        refine GL_rd (v := .slice _ _ _) (wn_none rfl) rfl (rd_assign rfl rfl) ?_
        refine GL_rd (v := .int _ _) (wn_none rfl) rfl (rd_assign rfl rfl) ?_
        refine GL_nil ?_
        refine GW_ret ?_
        have e1 : padOk s.data.toList.length size = false := by rw [hsl]; simp only [padOk, decide_eq_false_iff_not]; omega
        have e2 : padC s.size size = 15 := by unfold padC; (repeat' split) <;> omega
        refine ⟨_, res2 Try.results23 (rv_tmp (v := .slice _ _ _) rfl rfl) (rv_tmp (v := .int _ _) rfl rfl), .slice none 0 0, by rw [e2], ?_⟩
        rw [padL_no e1]
        exact hp.nilRow _ _
      · (try simp only [decide_eq_true_eq, decide_eq_false_iff_not, Bool.not_eq_true', Bool.not_eq_false', Bool.not_eq_eq_eq_not, Bool.not_true, Bool.not_false, Int.not_lt, Int.not_le] at hb3)
        refine GW_skip ?_
        refine GW_seq ?_
        refine GW_region ?_
        refine GL_rd (v := .string _) (wn_none rfl) rfl (rd_move rfl rfl) ?_
        refine GL_rd (wn_none rfl) rfl (rd_lenS rfl rfl Try.underlying9) ?_
        refine GL_rd (wn_none rfl) rfl (rd_conv rfl rfl Try.underlying5 Try.underlying3 (by simp)) ?_
        refine GL_lit (L := [.int .u8 (IntKind.u8.wrap (s.size : Int))]) (wn_none rfl) rfl rfl Try.underlying23 ts5 tz5 rfl (by kernel_rfl) rfl rfl hp ?_
        intro g w hp
        refine GL_rd (v := .slice _ _ _) (wn_none rfl) rfl (rd_assign rfl rfl) ?_
        refine GL_nil ?_
        refine GW_seq ?_
        refine GW_region ?_
        refine GL_rd (v := .slice _ _ _) (wn_none rfl) rfl (rd_move rfl rfl) ?_
        refine GL_rd (v := .string _) (wn_none rfl) rfl (rd_move rfl rfl) ?_
        rw [show [Value.int .u8 (IntKind.u8.wrap (s.size : Int))] = bys [UInt8.ofNat s.size] from by rw [u8_wrap]; rfl] at hp
        refine GL_appendS (i := 0) (wn_none rfl) rfl rfl rfl rfl Try.underlying23 Try.underlying9 ti5 hp rfl (by omega) ?_
        intro v w hp
        obtain ⟨Av, cv, rfl⟩ := row_shape (hp.get 0 rfl)
        refine GL_rd (v := .slice _ _ _) (wn_none rfl) rfl (rd_assign rfl rfl) ?_
        refine GL_nil ?_
        refine GW_seq ?_
        refine GW_block ?_
        refine GW_loop ?_
        refine Lp_ind (α := Nat × Option Addr × Nat) (fun a f w' => match a with | (k, A, c) => ∃ fz, f = (upd (upd fz 1 (.int .i64 size)) 6 (.slice A k c)) ∧ Hp w0 [] w' [.row 5 1 (.slice A k c) k (bys (UInt8.ofNat s.size :: (s.data.toList ++ List.replicate (k - 1 - s.size) 0)))] ∧ (1 + s.size ≤ k) ∧ (k ≤ m)) (fun a => match a with | (k, A, c) => m - k) ?_ (1 + s.size, Av, cv) _ _ ?_
        · rintro ⟨k, A, c⟩ f wz ⟨fz, rfl, hp, hk, hkm⟩ ihL0
          refine Lp_round ?_
          refine GW_seq ?_
          refine GW_seq ?_
          refine GW_region ?_
          refine GL_rd (v := .slice _ _ _) (wn_none rfl) rfl (rd_move rfl rfl) ?_
          refine GL_rd (wn_none rfl) rfl (rd_len rfl rfl Try.underlying23) ?_
          refine GL_rd (v := .int _ _) (wn_none rfl) rfl (rd_move rfl rfl) ?_
          refine GL_rd (wn_none rfl) rfl (rd_bin rfl rfl rfl bo_lss) ?_
          refine GL_nil ?_
          refine GW_cond rfl (fun hb4 => ?_) (fun hb4 => ?_)
          · (try simp only [decide_eq_true_eq, decide_eq_false_iff_not, Bool.not_eq_true', Bool.not_eq_false', Bool.not_eq_eq_eq_not, Bool.not_true, Bool.not_false, Int.not_lt, Int.not_le] at hb4)
            refine GW_skip ?_
            refine GW_block ?_
            refine GW_region ?_
            refine GL_rd (v := .slice _ _ _) (wn_none rfl) rfl (rd_move rfl rfl) ?_
            refine GL_lit (L := [.int .u8 0]) (wn_none rfl) rfl rfl Try.underlying23 ts5 tz5 rfl (by kernel_rfl) rfl rfl hp ?_
            intro g2 w hp
            refine GL_append (i := 1) (wn_none rfl) rfl rfl rfl rfl Try.underlying23 ti5 rfl (by decide) hp rfl (Sl.row (hp.get 0 rfl)) (one1 rfl) (by omega) (by omega) ?_
            intro v2 w hp
            obtain ⟨Av2, cv2, rfl⟩ := row_shape (hp.get 1 rfl)
            refine GL_rd (v := .slice _ _ _) (wn_none rfl) rfl (rd_assign rfl rfl) ?_
            refine GL_nil ?_
            have hp := hp.drop 1
            have hpm := pad_more (UInt8.ofNat s.size) s.data.toList k hk
            rw [hsl] at hpm
            rw [hpm] at hp
            exact ihL0 (k + 1, Av2, cv2) _ _ (by simp only []; omega) ⟨_, slots2 rfl rfl, hp, by omega, by omega⟩
          · (try simp only [decide_eq_true_eq, decide_eq_false_iff_not, Bool.not_eq_true', Bool.not_eq_false', Bool.not_eq_eq_eq_not, Bool.not_true, Bool.not_false, Int.not_lt, Int.not_le] at hb4)
            refine GW_exit ?_
            refine GW_seq ?_
            refine GW_region ?_
            refine GL_rd (v := .slice _ _ _) (wn_none rfl) rfl (rd_move rfl rfl) ?_
            refine GL_rd (v := .slice _ _ _) (wn_none rfl) rfl (rd_assign rfl rfl) ?_
            refine GL_rd (v := .int _ _) (wn_none rfl) rfl (rd_assign rfl rfl) ?_
            refine GL_nil ?_
            refine GW_ret ?_
            have e1 : padOk s.data.toList.length size = true := by rw [hsl]; simp only [padOk, decide_eq_true_eq]; omega
            have e2 : padC s.size size = 0 := by unfold padC; (repeat' split) <;> omega
            have e3 := padL_length _ _ e1
            refine ⟨_, res2 Try.results23 (rv_tmp (v := .slice _ _ _) rfl rfl) (rv_tmp (v := .int _ _) rfl rfl), _, by rw [e2], ?_⟩
            rw [e3, padL_yes e1]
            obtain rfl : k = size.toNat := by omega
            rw [hsl]
            exact hp
        · rw [show [UInt8.ofNat s.size] ++ s.data.toList = UInt8.ofNat s.size :: (s.data.toList ++ List.replicate (1 + s.size - 1 - s.size) 0) from by rw [show 1 + s.size - 1 - s.size = 0 by omega]; simp] at hp
          refine ⟨_, slots2 rfl rfl, hp, Nat.le_refl _, by omega⟩

theorem word_Unpad (sv : Value) (m : Nat) (l : List UInt8) (w0 : World) (hs : Sl w0 sv 1 m (bys l)) : Does Try.prog 24 #[sv] w0 fun v w' => v = .tuple #[.string ⟨(unpadL l).toArray⟩, .int .i64 (unpadC l)] ∧ Hp w0 [] w' [] := by
  obtain ⟨A, c, rfl⟩ := sl_shape hs
  have hml := hs.blen
  have hmle := hs.le
  refine does_of (l := [.slice A m c]) Try.func24 (by kernel_rfl) rfl Try.ntmps24 rfl rfl ?_
  have hp := Hp.refl w0 []
  refine GW_seq ?_
  refine GW_region ?_
  refine GL_rd (v := .string _) (wn_none rfl) rfl (rd_assign rfl rfl) ?_
  refine GL_rd (v := .int _ _) (wn_none rfl) rfl (rd_assign rfl rfl) ?_
  refine GL_nil ?_
  refine GW_seq ?_
  refine GW_seq ?_
  refine GW_region ?_
  refine GL_rd (v := .slice _ _ _) (wn_none rfl) rfl (rd_move rfl rfl) ?_
  refine GL_rd (wn_none rfl) rfl (rd_len rfl rfl Try.underlying23) ?_
  refine GL_rd (wn_none rfl) rfl (rd_bin rfl rfl rfl bo_lss) ?_
  refine GL_rd (v := .bool _) (wn_none rfl) rfl (rd_move rfl rfl) ?_
  refine GL_split (t := 10) (b := _) rfl ?_ ?_
  · intro hb; (try simp only [decide_eq_true_eq, decide_eq_false_iff_not, Bool.not_eq_true', Bool.not_eq_false', Bool.not_eq_eq_eq_not, Bool.not_true, Bool.not_false, Int.not_lt, Int.not_le] at hb)
    obtain rfl : l = [] := List.eq_nil_of_length_eq_zero (by omega)
    refine GL_pass (nw_off rfl rfl rfl rfl rfl) rfl ?_
    refine GL_pass (nw_off rfl rfl rfl rfl rfl) rfl ?_
    refine GL_pass (nw_off rfl rfl rfl rfl rfl) rfl ?_
    refine GL_pass (nw_off rfl rfl rfl rfl rfl) rfl ?_
    refine GL_pass (nw_off rfl rfl rfl rfl rfl) rfl ?_
    refine GL_pass (nw_off rfl rfl rfl rfl rfl) rfl ?_
    refine GL_pass (nw_off rfl rfl rfl rfl rfl) rfl ?_
    refine GL_pass (nw_off rfl rfl rfl rfl rfl) rfl ?_
    refine GL_rd (v := .bool _) (wn_none rfl) rfl (rd_pickT rfl rfl rfl) ?_
    refine GL_nil ?_
    refine GW_true rfl ?_
    refine GW_seq ?_
    refine GW_region ?_
    refine GL_rd (v := .string _) (wn_none rfl) rfl (rd_assign rfl rfl) ?_
    refine GL_rd (v := .int _ _) (wn_none rfl) rfl (rd_assign rfl rfl) ?_
    refine GL_nil ?_
    refine GW_ret ?_
    exact ⟨_, res2 Try.results24 (rv_tmp (v := .string _) rfl rfl) (rv_tmp (v := .int _ _) rfl rfl), rfl, hp⟩
  · intro hb; (try simp only [decide_eq_true_eq, decide_eq_false_iff_not, Bool.not_eq_true', Bool.not_eq_false', Bool.not_eq_eq_eq_not, Bool.not_true, Bool.not_false, Int.not_lt, Int.not_le] at hb)
    obtain ⟨b, r, rfl⟩ : ∃ b r, l = b :: r := by cases l with | nil => simp at hml; omega | cons b r => exact ⟨b, r, rfl⟩
    refine GL_rd (v := .slice _ _ _) (wn_on rfl rfl rfl rfl) rfl (rd_move rfl rfl) ?_
    obtain ⟨gA, bA, rfl⟩ := hs.addr (by rw [bys_length]; omega)
    refine GL_rd (wn_on rfl rfl rfl rfl) rfl (rd_indexS (j := 0) rfl rfl rfl Try.underlying23 ts5 rfl (by omega) _ rfl) ?_
    refine GL_rd (wn_on rfl rfl rfl rfl) rfl (rd_load rfl rfl Try.underlying5 rfl (Sl.byte (hs.keep hp.mod) 0 (by omega))) ?_
    rw [show (b :: r).getD 0 0 = b from rfl]
    refine GL_rd (wn_on rfl rfl rfl rfl) rfl (rd_conv8 .i64 rfl rfl Try.underlying3 Try.underlying5 (by simp)) ?_
    refine GL_rd (v := .slice _ _ _) (wn_on rfl rfl rfl rfl) rfl (rd_move rfl rfl) ?_
    refine GL_rd (wn_on rfl rfl rfl rfl) rfl (rd_len rfl rfl Try.underlying23) ?_
    refine GL_rd (wn_on rfl rfl rfl rfl) rfl (rd_bin rfl rfl rfl (bo_sub64 (by omega))) ?_
    refine GL_rd (wn_on rfl rfl rfl rfl) rfl (rd_bin rfl rfl rfl bo_gtr) ?_
    refine GL_rd (v := .bool _) (wn_none rfl) rfl (rd_pickF rfl rfl rfl) ?_
    refine GL_nil ?_
    refine GW_cond rfl (fun hb2 => ?_) (fun hb2 => ?_)
    · (try simp only [decide_eq_true_eq, decide_eq_false_iff_not, Bool.not_eq_true', Bool.not_eq_false', Bool.not_eq_eq_eq_not, Bool.not_true, Bool.not_false, Int.not_lt, Int.not_le] at hb2)
      refine GW_seq ?_
      refine GW_region ?_
      refine GL_rd (v := .string _) (wn_none rfl) rfl (rd_assign rfl rfl) ?_
      refine GL_rd (v := .int _ _) (wn_none rfl) rfl (rd_assign rfl rfl) ?_
      refine GL_nil ?_
      refine GW_ret ?_
      have e1 := unpad_long (b := b) (r := r) (by (try simp only [List.length_cons] at hml); omega)
      exact ⟨_, res2 Try.results24 (rv_tmp (v := .string _) rfl rfl) (rv_tmp (v := .int _ _) rfl rfl), by rw [e1.1, e1.2], hp⟩
    · (try simp only [decide_eq_true_eq, decide_eq_false_iff_not, Bool.not_eq_true', Bool.not_eq_false', Bool.not_eq_eq_eq_not, Bool.not_true, Bool.not_false, Int.not_lt, Int.not_le] at hb2)
      simp only [List.length_cons] at hml
      obtain ⟨A2, c2, hA2, hc2, hs2⟩ := hs.subB (1 + b.toNat) m (by omega) (Nat.le_refl _)
      rw [unpad_tail (by simpa using hml)] at hs2
      refine GW_skip ?_
      refine GW_seq ?_
      refine GW_region ?_
      refine GL_rd (v := .slice _ _ _) (wn_none rfl) rfl (rd_move rfl rfl) ?_
      refine GL_rd (wn_none rfl) rfl (rd_indexS (j := 0) rfl rfl rfl Try.underlying23 ts5 rfl (by omega) _ rfl) ?_
      refine GL_rd (wn_none rfl) rfl (rd_load rfl rfl Try.underlying5 rfl (Sl.byte (hs.keep hp.mod) 0 (by omega))) ?_
      rw [show (b :: r).getD 0 0 = b from rfl]
      refine GL_rd (wn_none rfl) rfl (rd_conv8 .i64 rfl rfl Try.underlying3 Try.underlying5 (by simp)) ?_
      refine GL_rd (wn_none rfl) rfl (rd_bin rfl rfl rfl (bo_add64 (by omega))) ?_
      refine GL_rd (v := .int _ _) (wn_none rfl) rfl (rd_assign rfl rfl) ?_
      refine GL_nil ?_
      refine GW_seq ?_
      refine GW_seq ?_
      refine GW_region ?_
      refine GL_rd (v := .slice _ _ _) (wn_none rfl) rfl (rd_move rfl rfl) ?_
      refine GL_rd (v := .int _ _) (wn_none rfl) rfl (rd_move rfl rfl) ?_
      refine GL_rd (wn_none rfl) rfl (rd_sliceE (lo := (1 + b.toNat)) (hi := m) rfl rfl Try.underlying23 ts5 (at_some rfl rfl) to_none (by omega) (by have := hs.cap.1; omega) hA2 rfl hc2) ?_
      refine GL_rd (wn_none rfl) rfl (rd_len rfl rfl Try.underlying23) ?_
      refine GL_rd (v := .int _ _) (wn_none rfl) rfl (rd_move rfl rfl) ?_
      refine GL_nil ?_
      refine GW_block ?_
      refine GW_loop ?_
      refine Lp_ind (α := Nat) (fun a f w' => match a with | k => ∃ fz, f = (upd (upd (upd (upd (upd fz 0 (.slice (some ⟨gA, bA, none⟩) m c)) 4 (.int .i64 ((1 + b.toNat : Nat) : Int))) 27 (.slice A2 (m - (1 + b.toNat)) c2)) 28 (.int .i64 ((m - (1 + b.toNat) : Nat) : Int))) 29 (.int .i64 (k : Int))) ∧ Hp w0 [] w' [] ∧ (k ≤ m - (1 + b.toNat)) ∧ (zeroL ((r.drop b.toNat).take k) = true)) (fun a => match a with | k => m - (1 + b.toNat) - k) ?_ 0 _ _ ?_
      · rintro k f wz ⟨fz, rfl, hp, hk, hz⟩ ihL0
        refine Lp_round ?_
        refine GW_seq ?_
        refine GW_region ?_
        refine GL_rd (wn_none rfl) rfl (rd_bin rfl rfl rfl bo_lss) ?_
        refine GL_nil ?_
        refine GW_seq ?_
        refine GW_cond rfl (fun hb3 => ?_) (fun hb3 => ?_)
        · (try simp only [decide_eq_true_eq, decide_eq_false_iff_not, Bool.not_eq_true', Bool.not_eq_false', Bool.not_eq_eq_eq_not, Bool.not_true, Bool.not_false, Int.not_lt, Int.not_le] at hb3)
          refine GW_skip ?_
          refine GW_seq ?_
          refine GW_block ?_
          refine GW_seq ?_
          refine GW_region ?_
          obtain ⟨gB, bB, rfl⟩ := hs2.addr (by rw [bys_length, List.length_drop]; omega)
          refine GL_rd (wn_none rfl) rfl (rd_indexS (j := k) rfl rfl rfl Try.underlying23 ts5 rfl (by omega) _ rfl) ?_
          refine GL_rd (wn_none rfl) rfl (rd_load rfl rfl Try.underlying5 rfl (Sl.byte (hs2.keep hp.mod) k (by omega))) ?_
          refine GL_rd (v := .int _ _) (wn_none rfl) rfl (rd_assign rfl rfl) ?_
          refine GL_nil ?_
          refine GW_seq ?_
          refine GW_region ?_
          refine GL_rd (v := .int _ _) (wn_none rfl) rfl (rd_move rfl rfl) ?_
          refine GL_rd (wn_none rfl) rfl (rd_bin rfl rfl rfl bo_neq) ?_
          refine GL_nil ?_
          refine GW_cond rfl (fun hb4 => ?_) (fun hb4 => ?_)
          · (try simp only [decide_eq_true_eq, decide_eq_false_iff_not, Bool.not_eq_true', Bool.not_eq_false', Bool.not_eq_eq_eq_not, Bool.not_true, Bool.not_false, Int.not_lt, Int.not_le] at hb4)
            refine GW_seq ?_
            refine GW_region ?_
            refine GL_rd (v := .string _) (wn_none rfl) rfl (rd_assign rfl rfl) ?_
            refine GL_rd (v := .int _ _) (wn_none rfl) rfl (rd_assign rfl rfl) ?_
            refine GL_nil ?_
            refine GW_ret ?_
            have e1 := unpad_dirty (b := b) (r := r) (zeroL_no (k := k) (by rw [List.length_drop]; omega) (fun e => hb4 ((u8_zero _).2 e)))
            exact ⟨_, res2 Try.results24 (rv_tmp (v := .string _) rfl rfl) (rv_tmp (v := .int _ _) rfl rfl), by rw [e1.1, e1.2], hp⟩
          · (try simp only [decide_eq_true_eq, decide_eq_false_iff_not, Bool.not_eq_true', Bool.not_eq_false', Bool.not_eq_eq_eq_not, Bool.not_true, Bool.not_false, Int.not_lt, Int.not_le] at hb4)
            refine GW_skip ?_
            refine GW_region ?_
            refine GL_rd (wn_none rfl) rfl (rd_bin rfl rfl rfl (bo_add64 (by omega))) ?_
            refine GL_rd (v := .int _ _) (wn_none rfl) rfl (rd_move rfl rfl) ?_
            refine GL_nil ?_
            exact ihL0 (k + 1) _ _ (by simp only []; omega) ⟨_, slots5 rfl rfl rfl rfl rfl, hp, (by omega), zeroL_take hz (by rw [List.length_drop]; omega) ((u8_zero _).1 hb4)⟩
        · (try simp only [decide_eq_true_eq, decide_eq_false_iff_not, Bool.not_eq_true', Bool.not_eq_false', Bool.not_eq_eq_eq_not, Bool.not_true, Bool.not_false, Int.not_lt, Int.not_le] at hb3)
          refine GW_exit ?_
          refine GW_seq ?_
          refine GW_region ?_
          refine GL_rd (v := .slice _ _ _) (wn_none rfl) rfl (rd_move rfl rfl) ?_
          refine GL_rd (v := .int _ _) (wn_none rfl) rfl (rd_move rfl rfl) ?_
          refine GL_rd (wn_none rfl) rfl (rd_sliceS (lo := 1) (hi := (1 + b.toNat)) rfl rfl Try.underlying23 ts5 (at_some rfl rfl) (at_some rfl rfl) (by omega) (by have := hs.cap.1; omega)) ?_
          refine GL_rd (wn_none rfl) rfl (rd_toStr rfl rfl Try.underlying23 Try.underlying9 Try.underlying5 (Sl.cutB (hs.keep hp.mod) 1 (1 + b.toNat) (by omega) (by omega))) ?_
          refine GL_rd (v := .string _) (wn_none rfl) rfl (rd_assign rfl rfl) ?_
          refine GL_rd (v := .int _ _) (wn_none rfl) rfl (rd_assign rfl rfl) ?_
          refine GL_nil ?_
          refine GW_ret ?_
          obtain rfl : k = m - (1 + b.toNat) := by omega
          rw [List.take_of_length_le (by rw [List.length_drop]; omega)] at hz
          have e1 := unpad_yes (b := b) (r := r) (by (try simp only [List.length_cons] at hml); omega) hz
          refine ⟨_, res2 Try.results24 (rv_tmp (v := .string _) rfl rfl) (rv_tmp (v := .int _ _) rfl rfl), ?_, hp⟩
          rw [e1.1, e1.2, unpad_mid]
      · refine ⟨_, slots5 rfl rfl rfl rfl rfl, hp, Nat.zero_le _, rfl⟩

theorem ref_Unpad (sv : Value) (m : Nat) (l : List UInt8) (w0 : World) (hs : Sl w0 sv 1 m (bys l)) : Does Try.prog 25 #[sv] w0 fun v w' => v = .tuple #[.string ⟨(unpadL l).toArray⟩, .int .i64 (unpadC l)] ∧ Hp w0 [] w' [] := by
  obtain ⟨A, c, rfl⟩ := sl_shape hs
  have hml := hs.blen
  have hmle := hs.le
  refine does_of (l := [.slice A m c]) Try.func25 (by kernel_rfl) rfl Try.ntmps25 rfl rfl ?_
  have hp := Hp.refl w0 []
  refine GW_seq ?_
  refine GW_region ?_
  refine GL_rd (v := .string _) (wn_none rfl) rfl (rd_assign rfl rfl) ?_
  refine GL_rd (v := .int _ _) (wn_none rfl) rfl (rd_assign rfl rfl) ?_
  refine GL_nil ?_
  refine GW_seq ?_
  refine GW_seq ?_
  refine GW_region ?_
  refine GL_rd (v := .slice _ _ _) (wn_none rfl) rfl (rd_move rfl rfl) ?_
  refine GL_rd (wn_none rfl) rfl (rd_len rfl rfl Try.underlying23) ?_
  refine GL_rd (wn_none rfl) rfl (rd_bin rfl rfl rfl bo_eql) ?_
  refine GL_nil ?_
  refine GW_cond rfl (fun hb => ?_) (fun hb => ?_)
  · (try simp only [decide_eq_true_eq, decide_eq_false_iff_not, Bool.not_eq_true', Bool.not_eq_false', Bool.not_eq_eq_eq_not, Bool.not_true, Bool.not_false, Int.not_lt, Int.not_le] at hb)
    obtain rfl : l = [] := List.eq_nil_of_length_eq_zero (by omega)
    refine GW_seq ?_
    refine GW_region ?_
    refine GL_rd (v := .string _) (wn_none rfl) rfl (rd_assign rfl rfl) ?_
    refine GL_rd (v := .int _ _) (wn_none rfl) rfl (rd_assign rfl rfl) ?_
    refine GL_nil ?_
    refine GW_ret ?_
    exact ⟨_, res2 Try.results25 (rv_tmp (v := .string _) rfl rfl) (rv_tmp (v := .int _ _) rfl rfl), rfl, hp⟩
  · (try simp only [decide_eq_true_eq, decide_eq_false_iff_not, Bool.not_eq_true', Bool.not_eq_false', Bool.not_eq_eq_eq_not, Bool.not_true, Bool.not_false, Int.not_lt, Int.not_le] at hb)
    obtain ⟨b, r, rfl⟩ : ∃ b r, l = b :: r := by cases l with | nil => simp at hml; omega | cons b r => exact ⟨b, r, rfl⟩
    refine GW_skip ?_
    refine GW_seq ?_
    refine GW_region ?_
    refine GL_rd (v := .slice _ _ _) (wn_none rfl) rfl (rd_move rfl rfl) ?_
    obtain ⟨gA, bA, rfl⟩ := hs.addr (by rw [bys_length]; omega)
    refine GL_rd (wn_none rfl) rfl (rd_indexS (j := 0) rfl rfl rfl Try.underlying23 ts5 rfl (by omega) _ rfl) ?_
    refine GL_rd (wn_none rfl) rfl (rd_load rfl rfl Try.underlying5 rfl (Sl.byte (hs.keep hp.mod) 0 (by omega))) ?_
    rw [show (b :: r).getD 0 0 = b from rfl]
    refine GL_rd (wn_none rfl) rfl (rd_conv8 .i64 rfl rfl Try.underlying3 Try.underlying5 (by simp)) ?_
    refine GL_rd (v := .int _ _) (wn_none rfl) rfl (rd_assign rfl rfl) ?_
    refine GL_nil ?_
    refine GW_seq ?_
    refine GW_seq ?_
    refine GW_region ?_
    refine GL_rd (v := .int _ _) (wn_none rfl) rfl (rd_move rfl rfl) ?_
    refine GL_rd (v := .slice _ _ _) (wn_none rfl) rfl (rd_move rfl rfl) ?_
    refine GL_rd (wn_none rfl) rfl (rd_len rfl rfl Try.underlying23) ?_
    refine GL_rd (wn_none rfl) rfl (rd_bin rfl rfl rfl (bo_sub64 (by omega))) ?_
    refine GL_rd (wn_none rfl) rfl (rd_bin rfl rfl rfl bo_gtr) ?_
    refine GL_rd (v := .bool _) (wn_none rfl) rfl (rd_move rfl rfl) ?_
    refine GL_split (t := 17) (b := _) rfl ?_ ?_
    · intro hb2; (try simp only [decide_eq_true_eq, decide_eq_false_iff_not, Bool.not_eq_true', Bool.not_eq_false', Bool.not_eq_eq_eq_not, Bool.not_true, Bool.not_false, Int.not_lt, Int.not_le] at hb2)
      refine GL_pass (nw_off rfl rfl rfl rfl rfl) rfl ?_
      refine GL_pass (nw_off rfl rfl rfl rfl rfl) rfl ?_
      refine GL_pass (nw_off rfl rfl rfl rfl rfl) rfl ?_
      refine GL_pass (nw_off rfl rfl rfl rfl rfl) rfl ?_
      refine GL_pass (nw_off rfl rfl rfl rfl rfl) rfl ?_
      refine GL_pass (nw_off rfl rfl rfl rfl rfl) rfl ?_
      refine GL_rd (v := .bool _) (wn_none rfl) rfl (rd_pickT rfl rfl rfl) ?_
      refine GL_nil ?_
      refine GW_true rfl ?_
      refine GW_seq ?_
      refine GW_region ?_
      refine GL_rd (v := .string _) (wn_none rfl) rfl (rd_assign rfl rfl) ?_
      refine GL_rd (v := .int _ _) (wn_none rfl) rfl (rd_assign rfl rfl) ?_
      refine GL_nil ?_
      refine GW_ret ?_
      have e1 := unpad_long (b := b) (r := r) (by (try simp only [List.length_cons] at hml); omega)
      exact ⟨_, res2 Try.results25 (rv_tmp (v := .string _) rfl rfl) (rv_tmp (v := .int _ _) rfl rfl), by rw [e1.1, e1.2], hp⟩
    · intro hb2; (try simp only [decide_eq_true_eq, decide_eq_false_iff_not, Bool.not_eq_true', Bool.not_eq_false', Bool.not_eq_eq_eq_not, Bool.not_true, Bool.not_false, Int.not_lt, Int.not_le] at hb2)
      simp only [List.length_cons] at hml
      refine GL_rd (v := .slice _ _ _) (wn_on rfl rfl rfl rfl) rfl (rd_move rfl rfl) ?_
      refine GL_rd (v := .int _ _) (wn_on rfl rfl rfl rfl) rfl (rd_move rfl rfl) ?_
      refine GL_rd (wn_on rfl rfl rfl rfl) rfl (rd_bin rfl rfl rfl (bo_add64 (by omega))) ?_
      refine GL_rd (wn_on rfl rfl rfl rfl) rfl (rd_sliceS (lo := (1 + b.toNat)) (hi := m) rfl rfl Try.underlying23 ts5 (at_some rfl rfl) to_none (by omega) (by have := hs.cap.1; omega)) ?_
      refine GL_call (wn_on rfl rfl rfl rfl) rfl rfl (ref_Zero _ _ _ _ (Sl.cutB (hs.keep hp.mod) (1 + b.toNat) m (by omega) (by omega))) rfl ?_
      rintro _ w ⟨rfl, hk⟩
      have hp := hp.comp hk
      rw [unpad_tail (by simpa using hml)]
      refine GL_rd (wn_on rfl rfl rfl rfl) rfl (rd_not rfl rfl) ?_
      refine GL_rd (v := .bool _) (wn_none rfl) rfl (rd_pickF rfl rfl rfl) ?_
      refine GL_nil ?_
      refine GW_cond rfl (fun hb3 => ?_) (fun hb3 => ?_)
      · (try simp only [decide_eq_true_eq, decide_eq_false_iff_not, Bool.not_eq_true', Bool.not_eq_false', Bool.not_eq_eq_eq_not, Bool.not_true, Bool.not_false, Int.not_lt, Int.not_le] at hb3)
        refine GW_seq ?_
        refine GW_region ?_
        refine GL_rd (v := .string _) (wn_none rfl) rfl (rd_assign rfl rfl) ?_
        refine GL_rd (v := .int _ _) (wn_none rfl) rfl (rd_assign rfl rfl) ?_
        refine GL_nil ?_
        refine GW_ret ?_
        have e1 := unpad_dirty (b := b) (r := r) hb3
        exact ⟨_, res2 Try.results25 (rv_tmp (v := .string _) rfl rfl) (rv_tmp (v := .int _ _) rfl rfl), by rw [e1.1, e1.2], hp⟩
      · (try simp only [decide_eq_true_eq, decide_eq_false_iff_not, Bool.not_eq_true', Bool.not_eq_false', Bool.not_eq_eq_eq_not, Bool.not_true, Bool.not_false, Int.not_lt, Int.not_le] at hb3)
        refine GW_skip ?_
        refine GW_seq ?_
        refine GW_region ?_
        refine GL_rd (v := .slice _ _ _) (wn_none rfl) rfl (rd_move rfl rfl) ?_
        refine GL_rd (v := .int _ _) (wn_none rfl) rfl (rd_move rfl rfl) ?_
        refine GL_rd (wn_none rfl) rfl (rd_bin rfl rfl rfl (bo_add64 (by omega))) ?_
        refine GL_rd (wn_none rfl) rfl (rd_sliceS (lo := 1) (hi := (1 + b.toNat)) rfl rfl Try.underlying23 ts5 (at_some rfl rfl) (at_some rfl rfl) (by omega) (by have := hs.cap.1; omega)) ?_
        refine GL_rd (wn_none rfl) rfl (rd_toStr rfl rfl Try.underlying23 Try.underlying9 Try.underlying5 (Sl.cutB (hs.keep hp.mod) 1 (1 + b.toNat) (by omega) (by omega))) ?_
        refine GL_rd (v := .string _) (wn_none rfl) rfl (rd_assign rfl rfl) ?_
        refine GL_rd (v := .int _ _) (wn_none rfl) rfl (rd_assign rfl rfl) ?_
        refine GL_nil ?_
        refine GW_ret ?_
        have hz := hb3
        have e1 := unpad_yes (b := b) (r := r) (by (try simp only [List.length_cons] at hml); omega) hz
        refine ⟨_, res2 Try.results25 (rv_tmp (v := .string _) rfl rfl) (rv_tmp (v := .int _ _) rfl rfl), ?_, hp⟩
        rw [e1.1, e1.2, unpad_mid]

theorem word_Few (A : Option Addr) (m c : Nat) (w0 : World) : Does Try.prog 15 #[.slice A m c] w0 fun v w' => v = .int .i64 (fewI m) ∧ Hp w0 [] w' [] := by
  refine does_of (l := [.slice A m c]) Try.func15 (by kernel_rfl) rfl Try.ntmps15 rfl rfl ?_
  have hp := Hp.refl w0 []
  refine GW_seq ?_
  refine GW_region ?_
  refine GL_rd (v := .int _ _) (wn_none rfl) rfl (rd_assign rfl rfl) ?_
  refine GL_nil ?_
  refine GW_seq ?_
  refine GW_seq ?_
  refine GW_region ?_
  refine GL_rd (v := .slice _ _ _) (wn_none rfl) rfl (rd_move rfl rfl) ?_
  refine GL_rd (wn_none rfl) rfl (rd_len rfl rfl Try.underlying23) ?_
  refine GL_rd (wn_none rfl) rfl (rd_bin rfl rfl rfl bo_gtr) ?_
  refine GL_nil ?_
  refine GW_cond rfl (fun hb => ?_) (fun hb => ?_)
  · (try simp only [decide_eq_true_eq, decide_eq_false_iff_not, Bool.not_eq_true', Bool.not_eq_false', Bool.not_eq_eq_eq_not, Bool.not_true, Bool.not_false, Int.not_lt, Int.not_le] at hb)
    refine GW_seq ?_
    refine GW_region ?_
    refine GL_rd (v := .int _ _) (wn_none rfl) rfl (rd_assign rfl rfl) ?_
    refine GL_nil ?_
    refine GW_ret ?_
    exact ⟨_, res1 Try.results15 (rv_tmp (v := .int _ _) rfl rfl), by simp only [fewI]; rw [if_pos (by omega)], hp⟩
  · (try simp only [decide_eq_true_eq, decide_eq_false_iff_not, Bool.not_eq_true', Bool.not_eq_false', Bool.not_eq_eq_eq_not, Bool.not_true, Bool.not_false, Int.not_lt, Int.not_le] at hb)
    refine GW_skip ?_
    refine GW_seq ?_
    refine GW_region ?_
    refine GL_rd (v := .int _ _) (wn_none rfl) rfl (rd_assign rfl rfl) ?_
    refine GL_nil ?_
    refine GW_ret ?_
    exact ⟨_, res1 Try.results15 (rv_tmp (v := .int _ _) rfl rfl), by simp only [fewI]; rw [if_neg (by omega)], hp⟩

theorem word_From (A : Option Addr) (m c : Nat) (w0 : World) : Does Try.prog 29 #[.slice A m c] w0 fun v w' => ∃ g, v = .pointer (some ⟨g, 0, none⟩) ∧ Hp w0 [] w' [cells g 126 [.slice A m c, .bool false]] := by
  refine does_of (l := [.slice A m c]) Try.func29 (by kernel_rfl) rfl Try.ntmps29 rfl rfl ?_
  have hp := Hp.refl w0 []
  refine GW_seq ?_
  refine GW_region ?_
  refine GL_rd (v := _) (wn_none rfl) rfl (rd_assign rfl rfl) ?_
  refine GL_nil ?_
  refine GW_seq ?_
  refine GW_region ?_
  refine GL_rd (v := .slice _ _ _) (wn_none rfl) rfl (rd_move rfl rfl) ?_
  refine GL_rd (wn_none rfl) rfl (rd_buildS (L := [.slice A m c, .bool false]) rfl tz126 pl126 (by kernel_rfl)) ?_
  refine GL_box (wn_none rfl) rfl rfl rfl rfl hp ?_
  intro g w hp
  refine GL_rd (v := .pointer (some ⟨_, _, none⟩)) (wn_none rfl) rfl (rd_assign rfl rfl) ?_
  refine GL_nil ?_
  refine GW_ret ?_
  exact ⟨_, res1 Try.results29 (rv_tmp (v := .pointer (some ⟨_, _, none⟩)) rfl rfl), _, rfl, hp⟩

theorem cur_Bytes (p : Nat) (bv : Value) (l : List UInt8) (bad : Bool) (k : Int) (w0 : World) (hg : (cells p 126 [bv, .bool bad]).at_ w0) (hB : ∀ w', Mod [p] w0 w' → Sl w' bv 1 l.length (bys l)) (hl : l.length ≤ 4294967296) : Does Try.prog 34 #[.pointer (some ⟨p, 0, none⟩), .int .i64 k] w0 fun v w' => ∃ bv', Suf bv l bv' (curL bad l k) ∧ Hp w0 [p] w' [.row 5 1 v (curOut bad l k).length (bys (curOut bad l k)), cells p 126 [bv', .bool (!curOk bad l k)]] := by
  obtain ⟨A, c, rfl⟩ := sl_shape (hB w0 (Mod.refl _ _))
  have hcap := (hB w0 (Mod.refl _ _)).cap
  refine does_of (l := [.pointer (some ⟨p, 0, none⟩), .int .i64 k]) Try.func34 (by kernel_rfl) rfl Try.ntmps34 rfl rfl ?_
  have hp := Hp.one hg
  refine GW_seq ?_
  refine GW_region ?_
  refine GL_rd (v := .slice _ _ _) (wn_none rfl) rfl (rd_assign rfl rfl) ?_
  refine GL_nil ?_
  refine GW_seq ?_
  refine GW_seq ?_
  refine GW_region ?_
  refine GL_rd (v := .pointer (some ⟨_, _, none⟩)) (wn_none rfl) rfl (rd_move rfl rfl) ?_
  refine GL_rd (wn_none rfl) rfl (rd_nilCheck rfl rfl) ?_
  refine GL_rd (wn_none rfl) rfl (rd_field rfl rfl fa126_1 _ rfl) ?_
  refine GL_rd (wn_none rfl) rfl (rd_load rfl rfl Try.underlying4 rfl ((cell_of_cells (hp.get 0 rfl) _).trans rfl)) ?_
  refine GL_rd (v := .bool _) (wn_none rfl) rfl (rd_move rfl rfl) ?_
  refine GL_split (t := 10) (b := _) rfl ?_ ?_
  · intro hb; (try simp only [decide_eq_true_eq, decide_eq_false_iff_not, Bool.not_eq_true', Bool.not_eq_false', Bool.not_eq_eq_eq_not, Bool.not_true, Bool.not_false, Int.not_lt, Int.not_le] at hb)
    have hno : curOk bad l k = false := by simp [curOk, hb]
    refine GL_pass (nw_off rfl rfl rfl rfl rfl) rfl ?_
    refine GL_pass (nw_off rfl rfl rfl rfl rfl) rfl ?_
    refine GL_rd (v := .bool _) (wn_none rfl) rfl (rd_pickT rfl rfl rfl) ?_
    refine GL_rd (v := .bool _) (wn_none rfl) rfl (rd_move rfl rfl) ?_
    refine GL_pass (nw_off rfl rfl rfl rfl rfl) rfl ?_
    refine GL_pass (nw_off rfl rfl rfl rfl rfl) rfl ?_
    refine GL_pass (nw_off rfl rfl rfl rfl rfl) rfl ?_
    refine GL_pass (nw_off rfl rfl rfl rfl rfl) rfl ?_
    refine GL_pass (nw_off rfl rfl rfl rfl rfl) rfl ?_
    refine GL_pass (nw_off rfl rfl rfl rfl rfl) rfl ?_
    refine GL_pass (nw_off rfl rfl rfl rfl rfl) rfl ?_
    refine GL_rd (v := .bool _) (wn_none rfl) rfl (rd_pickT rfl rfl rfl) ?_
    refine GL_nil ?_
    refine GW_true rfl ?_
    refine GW_seq ?_
    refine GW_region ?_
    refine GL_rd (v := .pointer (some ⟨_, _, none⟩)) (wn_none rfl) rfl (rd_move rfl rfl) ?_
    refine GL_rd (wn_none rfl) rfl (rd_nilCheck rfl rfl) ?_
    refine GL_rd (wn_none rfl) rfl (rd_field rfl rfl fa126_1 _ rfl) ?_
    refine GL_store (i := 0) (wn_none rfl) rfl rfl rfl rfl ts4 rfl rfl (one1 rfl) hp rfl (by first | exact Nat.le_of_ble_eq_true rfl | simp [bys_length, *]) rfl ?_
    intro w hp
    refine GL_nil ?_
    refine GW_seq ?_
    refine GW_region ?_
    refine GL_rd (v := .int _ _) (wn_none rfl) rfl (rd_move rfl rfl) ?_
    refine GL_rd (wn_none rfl) rfl (rd_max rfl rfl rfl) ?_
    refine GL_rd (wn_none rfl) rfl (rd_min rfl rfl rfl) ?_
    refine GL_make (m := (min (max k 0) 256).toNat) (wn_none rfl) rfl rfl rfl Try.underlying23 ti5 rfl (by omega) (by omega) (by omega) hp ?_
    intro g w hp
    refine GL_rd (v := .slice _ _ _) (wn_none rfl) rfl (rd_assign rfl rfl) ?_
    refine GL_nil ?_
    refine GW_ret ?_
    refine ⟨_, res1 Try.results34 (rv_tmp (v := .slice _ _ _) rfl rfl), .slice A l.length c, ?_, ?_⟩
    · rw [(cur_no hno).2]; exact Suf.refl _ _
    · rw [(cur_no hno).1, hno, List.length_replicate, bys_replicate]; exact hp
  · intro hb; (try simp only [decide_eq_true_eq, decide_eq_false_iff_not, Bool.not_eq_true', Bool.not_eq_false', Bool.not_eq_eq_eq_not, Bool.not_true, Bool.not_false, Int.not_lt, Int.not_le] at hb)
    subst hb
    refine GL_rd (v := .int _ _) (wn_on rfl rfl rfl rfl) rfl (rd_move rfl rfl) ?_
    refine GL_rd (wn_on rfl rfl rfl rfl) rfl (rd_bin rfl rfl rfl bo_lss) ?_
    refine GL_rd (v := .bool _) (wn_none rfl) rfl (rd_pickF rfl rfl rfl) ?_
    refine GL_rd (v := .bool _) (wn_none rfl) rfl (rd_move rfl rfl) ?_
    refine GL_split (t := 14) (b := _) rfl ?_ ?_
    · intro hb2; (try simp only [decide_eq_true_eq, decide_eq_false_iff_not, Bool.not_eq_true', Bool.not_eq_false', Bool.not_eq_eq_eq_not, Bool.not_true, Bool.not_false, Int.not_lt, Int.not_le] at hb2)
      have hno : curOk false l k = false := by simp only [curOk, Bool.and_eq_false_iff, decide_eq_false_iff_not]; right; omega
      refine GL_pass (nw_off rfl rfl rfl rfl rfl) rfl ?_
      refine GL_pass (nw_off rfl rfl rfl rfl rfl) rfl ?_
      refine GL_pass (nw_off rfl rfl rfl rfl rfl) rfl ?_
      refine GL_pass (nw_off rfl rfl rfl rfl rfl) rfl ?_
      refine GL_pass (nw_off rfl rfl rfl rfl rfl) rfl ?_
      refine GL_pass (nw_off rfl rfl rfl rfl rfl) rfl ?_
      refine GL_pass (nw_off rfl rfl rfl rfl rfl) rfl ?_
      refine GL_rd (v := .bool _) (wn_none rfl) rfl (rd_pickT rfl rfl rfl) ?_
      refine GL_nil ?_
      refine GW_true rfl ?_
      refine GW_seq ?_
      refine GW_region ?_
      refine GL_rd (v := .pointer (some ⟨_, _, none⟩)) (wn_none rfl) rfl (rd_move rfl rfl) ?_
      refine GL_rd (wn_none rfl) rfl (rd_nilCheck rfl rfl) ?_
      refine GL_rd (wn_none rfl) rfl (rd_field rfl rfl fa126_1 _ rfl) ?_
      refine GL_store (i := 0) (wn_none rfl) rfl rfl rfl rfl ts4 rfl rfl (one1 rfl) hp rfl (by first | exact Nat.le_of_ble_eq_true rfl | simp [bys_length, *]) rfl ?_
      intro w hp
      refine GL_nil ?_
      refine GW_seq ?_
      refine GW_region ?_
      refine GL_rd (v := .int _ _) (wn_none rfl) rfl (rd_move rfl rfl) ?_
      refine GL_rd (wn_none rfl) rfl (rd_max rfl rfl rfl) ?_
      refine GL_rd (wn_none rfl) rfl (rd_min rfl rfl rfl) ?_
      refine GL_make (m := (min (max k 0) 256).toNat) (wn_none rfl) rfl rfl rfl Try.underlying23 ti5 rfl (by omega) (by omega) (by omega) hp ?_
      intro g2 w hp
      refine GL_rd (v := .slice _ _ _) (wn_none rfl) rfl (rd_assign rfl rfl) ?_
      refine GL_nil ?_
      refine GW_ret ?_
      refine ⟨_, res1 Try.results34 (rv_tmp (v := .slice _ _ _) rfl rfl), .slice A l.length c, ?_, ?_⟩
      · rw [(cur_no hno).2]; exact Suf.refl _ _
      · rw [(cur_no hno).1, hno, List.length_replicate, bys_replicate]; exact hp
    · intro hb2; (try simp only [decide_eq_true_eq, decide_eq_false_iff_not, Bool.not_eq_true', Bool.not_eq_false', Bool.not_eq_eq_eq_not, Bool.not_true, Bool.not_false, Int.not_lt, Int.not_le] at hb2)
      refine GL_rd (v := .int _ _) (wn_on rfl rfl rfl rfl) rfl (rd_move rfl rfl) ?_
      refine GL_rd (v := .pointer (some ⟨_, _, none⟩)) (wn_on rfl rfl rfl rfl) rfl (rd_move rfl rfl) ?_
      refine GL_rd (wn_on rfl rfl rfl rfl) rfl (rd_nilCheck rfl rfl) ?_
      refine GL_rd (wn_on rfl rfl rfl rfl) rfl (rd_field rfl rfl fa126_0 _ rfl) ?_
      refine GL_rd (v := .slice _ _ _) (wn_on rfl rfl rfl rfl) rfl (rd_load rfl rfl Try.underlying23 rfl ((cell_of_cells (hp.get 0 rfl) _).trans rfl)) ?_
      refine GL_rd (wn_on rfl rfl rfl rfl) rfl (rd_len rfl rfl Try.underlying23) ?_
      refine GL_rd (wn_on rfl rfl rfl rfl) rfl (rd_bin rfl rfl rfl bo_gtr) ?_
      refine GL_rd (v := .bool _) (wn_none rfl) rfl (rd_pickF rfl rfl rfl) ?_
      refine GL_nil ?_
      refine GW_cond rfl (fun hb3 => ?_) (fun hb3 => ?_)
      · (try simp only [decide_eq_true_eq, decide_eq_false_iff_not, Bool.not_eq_true', Bool.not_eq_false', Bool.not_eq_eq_eq_not, Bool.not_true, Bool.not_false, Int.not_lt, Int.not_le] at hb3)
        have hno : curOk false l k = false := by simp only [curOk, Bool.and_eq_false_iff, decide_eq_false_iff_not]; right; omega
        refine GW_seq ?_
        refine GW_region ?_
        refine GL_rd (v := .pointer (some ⟨_, _, none⟩)) (wn_none rfl) rfl (rd_move rfl rfl) ?_
        refine GL_rd (wn_none rfl) rfl (rd_nilCheck rfl rfl) ?_
        refine GL_rd (wn_none rfl) rfl (rd_field rfl rfl fa126_1 _ rfl) ?_
        refine GL_store (i := 0) (wn_none rfl) rfl rfl rfl rfl ts4 rfl rfl (one1 rfl) hp rfl (by first | exact Nat.le_of_ble_eq_true rfl | simp [bys_length, *]) rfl ?_
        intro w hp
        refine GL_nil ?_
        refine GW_seq ?_
        refine GW_region ?_
        refine GL_rd (v := .int _ _) (wn_none rfl) rfl (rd_move rfl rfl) ?_
        refine GL_rd (wn_none rfl) rfl (rd_max rfl rfl rfl) ?_
        refine GL_rd (wn_none rfl) rfl (rd_min rfl rfl rfl) ?_
        refine GL_make (m := (min (max k 0) 256).toNat) (wn_none rfl) rfl rfl rfl Try.underlying23 ti5 rfl (by omega) (by omega) (by omega) hp ?_
        intro g3 w hp
        refine GL_rd (v := .slice _ _ _) (wn_none rfl) rfl (rd_assign rfl rfl) ?_
        refine GL_nil ?_
        refine GW_ret ?_
        refine ⟨_, res1 Try.results34 (rv_tmp (v := .slice _ _ _) rfl rfl), .slice A l.length c, ?_, ?_⟩
        · rw [(cur_no hno).2]; exact Suf.refl _ _
        · rw [(cur_no hno).1, hno, List.length_replicate, bys_replicate]; exact hp
      · (try simp only [decide_eq_true_eq, decide_eq_false_iff_not, Bool.not_eq_true', Bool.not_eq_false', Bool.not_eq_eq_eq_not, Bool.not_true, Bool.not_false, Int.not_lt, Int.not_le] at hb3)
        have hyes : curOk false l k = true := by simp only [curOk, Bool.not_false, Bool.true_and, decide_eq_true_eq]; omega
        obtain ⟨j, rfl⟩ : ∃ j : Nat, k = (j : Int) := ⟨k.toNat, by omega⟩
        have hj : j ≤ l.length := by omega
        refine GW_skip ?_
        refine GW_seq ?_
        refine GW_region ?_
        refine GL_rd (v := .int _ _) (wn_none rfl) rfl (rd_move rfl rfl) ?_
        refine GL_make (m := j) (wn_none rfl) rfl rfl rfl Try.underlying23 ti5 rfl rfl (by omega) (by omega) hp ?_
        intro g4 w hp
        refine GL_rd (v := .slice _ _ _) (wn_none rfl) rfl (rd_assign rfl rfl) ?_
        refine GL_nil ?_
        refine GW_seq ?_
        refine GW_region ?_
        refine GL_rd (v := .slice _ _ _) (wn_none rfl) rfl (rd_move rfl rfl) ?_
        refine GL_rd (v := .pointer (some ⟨_, _, none⟩)) (wn_none rfl) rfl (rd_move rfl rfl) ?_
        refine GL_rd (wn_none rfl) rfl (rd_nilCheck rfl rfl) ?_
        refine GL_rd (wn_none rfl) rfl (rd_field rfl rfl fa126_0 _ rfl) ?_
        refine GL_rd (v := .slice _ _ _) (wn_none rfl) rfl (rd_load rfl rfl Try.underlying23 rfl ((cell_of_cells (hp.get 1 rfl) _).trans rfl)) ?_
        refine GL_copyR (i := 0) (wn_none rfl) rfl rfl rfl rfl Try.underlying23 ts5 hp rfl rfl (hB _ hp.mod) (bys_take _ _) (by rw [bys_length, List.length_replicate, List.length_take]; omega) (bys_one _) (cur_copy l j hj) ?_
        intro w hp
        refine GL_nil ?_
        refine GW_seq ?_
        refine GW_region ?_
        refine GL_rd (v := .pointer (some ⟨_, _, none⟩)) (wn_none rfl) rfl (rd_move rfl rfl) ?_
        refine GL_rd (v := .pointer (some ⟨_, _, none⟩)) (wn_none rfl) rfl (rd_move rfl rfl) ?_
        refine GL_rd (wn_none rfl) rfl (rd_nilCheck rfl rfl) ?_
        refine GL_rd (wn_none rfl) rfl (rd_field rfl rfl fa126_0 _ rfl) ?_
        refine GL_rd (v := .slice _ _ _) (wn_none rfl) rfl (rd_load rfl rfl Try.underlying23 rfl ((cell_of_cells (hp.get 1 rfl) _).trans rfl)) ?_
        refine GL_rd (v := .int _ _) (wn_none rfl) rfl (rd_move rfl rfl) ?_
        refine GL_rd (wn_none rfl) rfl (rd_sliceS (lo := j) (hi := l.length) rfl rfl Try.underlying23 ts5 (at_some rfl rfl) to_none hj hcap.1) ?_
        refine GL_rd (wn_none rfl) rfl (rd_nilCheck rfl rfl) ?_
        refine GL_rd (wn_none rfl) rfl (rd_field rfl rfl fa126_0 _ rfl) ?_
        refine GL_store (i := 1) (wn_none rfl) rfl rfl rfl rfl ts23 rfl rfl (one1 rfl) hp rfl (by first | exact Nat.le_of_ble_eq_true rfl | simp [bys_length, *]) rfl ?_
        intro w hp
        refine GL_nil ?_
        refine GW_seq ?_
        refine GW_region ?_
        refine GL_rd (v := .slice _ _ _) (wn_none rfl) rfl (rd_move rfl rfl) ?_
        refine GL_rd (v := .slice _ _ _) (wn_none rfl) rfl (rd_assign rfl rfl) ?_
        refine GL_nil ?_
        refine GW_ret ?_
        refine ⟨_, res1 Try.results34 (rv_tmp (v := .slice _ _ _) rfl rfl), .slice (if c = j then A else A.map (·.add (j * 1))) (l.length - j) (c - j), ?_, ?_⟩
        · rw [(cur_yes hyes).2]; exact Suf.cut rfl j hj
        · rw [(cur_yes hyes).1, hyes, List.length_take, Int.toNat_natCast, Nat.min_eq_left hj]; exact hp

theorem cur_Num (p : Nat) (bv : Value) (l : List UInt8) (bad : Bool) (k : Int) (w0 : World) (hg : (cells p 126 [bv, .bool bad]).at_ w0) (hB : ∀ w', Mod [p] w0 w' → Sl w' bv 1 l.length (bys l)) (hl : l.length ≤ 4294967296) : Does Try.prog 31 #[.pointer (some ⟨p, 0, none⟩), .int .i64 k] w0 fun v w' => ∃ bv', Suf bv l bv' (curL bad l k) ∧ v = .int .u64 (curNum bad l k : Int) ∧ Hp w0 [p] w' [cells p 126 [bv', .bool (!curOk bad l k)]] := by
  obtain ⟨A, c, rfl⟩ := sl_shape (hB w0 (Mod.refl _ _))
  have hcap := (hB w0 (Mod.refl _ _)).cap
  refine does_of (l := [.pointer (some ⟨p, 0, none⟩), .int .i64 k]) Try.func31 (by kernel_rfl) rfl Try.ntmps31 rfl rfl ?_
  have hp := Hp.one hg
  refine GW_seq ?_
  refine GW_region ?_
  refine GL_rd (v := .int _ _) (wn_none rfl) rfl (rd_assign rfl rfl) ?_
  refine GL_nil ?_
  refine GW_seq ?_
  refine GW_region ?_
  refine GL_rd (v := .pointer (some ⟨_, _, none⟩)) (wn_none rfl) rfl (rd_move rfl rfl) ?_
  refine GL_rd (v := .int _ _) (wn_none rfl) rfl (rd_move rfl rfl) ?_
  refine GL_call (wn_none rfl) rfl rfl (cur_Bytes p _ l bad k _ (hp.get 0 rfl) (fun w' h => hB w' (hp.modAt 0 rfl h)) hl) rfl ?_
  rintro v w ⟨bv', hsuf, hk⟩
  have hp := hp.turnAtMore 0 rfl hk
  refine GL_call (wn_none rfl) rfl rfl (word_Get v _ _ _ (Sl.row (hp.get 0 rfl))) rfl ?_
  rintro _ w ⟨rfl, hk⟩
  have hp := hp.comp hk
  refine GL_rd (v := .int _ _) (wn_none rfl) rfl (rd_assign rfl rfl) ?_
  refine GL_nil ?_
  refine GW_ret ?_
  exact ⟨_, res1 Try.results31 (rv_tmp (v := .int _ _) rfl rfl), _, hsuf, rfl, hp.drop 1⟩

theorem cur_Text (p : Nat) (bv : Value) (l : List UInt8) (bad : Bool) (k : Int) (w0 : World) (hg : (cells p 126 [bv, .bool bad]).at_ w0) (hB : ∀ w', Mod [p] w0 w' → Sl w' bv 1 l.length (bys l)) (hl : l.length ≤ 4294967296) : Does Try.prog 30 #[.pointer (some ⟨p, 0, none⟩), .int .i64 k] w0 fun v w' => ∃ bv', Suf bv l bv' (curL bad l k) ∧ v = .string ⟨(curText bad l k).toArray⟩ ∧ Hp w0 [p] w' [cells p 126 [bv', .bool (curTextBad bad l k)]] := by
  obtain ⟨A, c, rfl⟩ := sl_shape (hB w0 (Mod.refl _ _))
  have hcap := (hB w0 (Mod.refl _ _)).cap
  refine does_of (l := [.pointer (some ⟨p, 0, none⟩), .int .i64 k]) Try.func30 (by kernel_rfl) rfl Try.ntmps30 rfl rfl ?_
  have hp := Hp.one hg
  refine GW_seq ?_
  refine GW_region ?_
  refine GL_rd (v := .string _) (wn_none rfl) rfl (rd_assign rfl rfl) ?_
  refine GL_nil ?_
  refine GW_seq ?_
  refine GW_region ?_
  refine GL_rd (v := .pointer (some ⟨_, _, none⟩)) (wn_none rfl) rfl (rd_move rfl rfl) ?_
  refine GL_rd (v := .int _ _) (wn_none rfl) rfl (rd_move rfl rfl) ?_
  refine GL_call (wn_none rfl) rfl rfl (cur_Bytes p _ l bad k _ (hp.get 0 rfl) (fun w' h => hB w' (hp.modAt 0 rfl h)) hl) rfl ?_
  rintro v w ⟨bv', hsuf, hk⟩
  have hp := hp.turnAtMore 0 rfl hk
  refine GL_call (wn_none rfl) rfl rfl (word_Unpad v _ _ _ (Sl.row (hp.get 0 rfl))) rfl ?_
  rintro _ w ⟨rfl, hk⟩
  have hp := hp.comp hk
  refine GL_rd (v := .tuple _) (wn_none rfl) rfl (rd_move rfl rfl) ?_
  refine GL_rd (v := .string _) (wn_none rfl) rfl (rd_extract rfl rfl rfl) ?_
  refine GL_rd (v := .int _ _) (wn_none rfl) rfl (rd_extract rfl rfl rfl) ?_
  refine GL_rd (v := .string _) (wn_none rfl) rfl (rd_assign rfl rfl) ?_
  refine GL_rd (v := .int _ _) (wn_none rfl) rfl (rd_assign rfl rfl) ?_
  refine GL_nil ?_
  refine GW_seq ?_
  refine GW_seq ?_
  refine GW_region ?_
  refine GL_rd (v := .int _ _) (wn_none rfl) rfl (rd_move rfl rfl) ?_
  refine GL_rd (wn_none rfl) rfl (rd_bin rfl rfl rfl bo_neq) ?_
  refine GL_nil ?_
  refine GW_cond rfl (fun hb => ?_) (fun hb => ?_)
  · (try simp only [decide_eq_true_eq, decide_eq_false_iff_not, Bool.not_eq_true', Bool.not_eq_false', Bool.not_eq_eq_eq_not, Bool.not_true, Bool.not_false, Int.not_lt, Int.not_le] at hb)
    refine GW_seq ?_
    refine GW_region ?_
    refine GL_rd (v := .pointer (some ⟨_, _, none⟩)) (wn_none rfl) rfl (rd_move rfl rfl) ?_
    refine GL_rd (wn_none rfl) rfl (rd_nilCheck rfl rfl) ?_
    refine GL_rd (wn_none rfl) rfl (rd_field rfl rfl fa126_1 _ rfl) ?_
    refine GL_store (i := 1) (wn_none rfl) rfl rfl rfl rfl ts4 rfl rfl (one1 rfl) hp rfl (by first | exact Nat.le_of_ble_eq_true rfl | simp [bys_length, *]) rfl ?_
    intro w hp
    refine GL_nil ?_
    refine GW_seq ?_
    refine GW_region ?_
    refine GL_rd (v := .string _) (wn_none rfl) rfl (rd_assign rfl rfl) ?_
    refine GL_nil ?_
    refine GW_ret ?_
    have e1 : unpadOk (curOut bad l k) = false := by cases h : unpadOk (curOut bad l k) with | false => rfl | true => exact absurd (unpadC_iff.2 h) hb
    refine ⟨_, res1 Try.results30 (rv_tmp (v := .string _) rfl rfl), _, hsuf, ?_, ?_⟩
    · rw [curText, unpadL_no e1]
    · rw [curTextBad, e1, Bool.not_false, Bool.or_true]; exact hp.drop 1
  · (try simp only [decide_eq_true_eq, decide_eq_false_iff_not, Bool.not_eq_true', Bool.not_eq_false', Bool.not_eq_eq_eq_not, Bool.not_true, Bool.not_false, Int.not_lt, Int.not_le] at hb)
    refine GW_skip ?_
    refine GW_seq ?_
    refine GW_region ?_
    refine GL_rd (v := .string _) (wn_none rfl) rfl (rd_move rfl rfl) ?_
    refine GL_rd (v := .string _) (wn_none rfl) rfl (rd_assign rfl rfl) ?_
    refine GL_nil ?_
    refine GW_ret ?_
    have e1 : unpadOk (curOut bad l k) = true := unpadC_iff.1 hb
    refine ⟨_, res1 Try.results30 (rv_tmp (v := .string _) rfl rfl), _, hsuf, rfl, ?_⟩
    rw [curTextBad, e1, Bool.not_true, Bool.or_false]; exact hp.drop 1

theorem cur_Rest (p : Nat) (bv : Value) (l : List UInt8) (bad : Bool) (w0 : World) (hg : (cells p 126 [bv, .bool bad]).at_ w0) (hB : ∀ w', Mod [p] w0 w' → Sl w' bv 1 l.length (bys l)) : Does Try.prog 32 #[.pointer (some ⟨p, 0, none⟩)] w0 fun v w' => v = .bool (!bad && zeroL l) ∧ Hp w0 [] w' [] := by
  obtain ⟨A, c, rfl⟩ := sl_shape (hB w0 (Mod.refl _ _))
  have hcap := (hB w0 (Mod.refl _ _)).cap
  refine does_of (l := [.pointer (some ⟨p, 0, none⟩)]) Try.func32 (by kernel_rfl) rfl Try.ntmps32 rfl rfl ?_
  have hp := Hp.refl w0 []
  refine GW_seq ?_
  refine GW_region ?_
  refine GL_rd (v := .bool _) (wn_none rfl) rfl (rd_assign rfl rfl) ?_
  refine GL_nil ?_
  refine GW_seq ?_
  refine GW_region ?_
  refine GL_rd (v := .pointer (some ⟨_, _, none⟩)) (wn_none rfl) rfl (rd_move rfl rfl) ?_
  refine GL_rd (wn_none rfl) rfl (rd_nilCheck rfl rfl) ?_
  refine GL_rd (wn_none rfl) rfl (rd_field rfl rfl fa126_1 _ rfl) ?_
  refine GL_rd (wn_none rfl) rfl (rd_load rfl rfl Try.underlying4 rfl (cell_of_cells hg 1)) ?_
  refine GL_rd (wn_none rfl) rfl (rd_not rfl rfl) ?_
  refine GL_rd (v := .bool _) (wn_none rfl) rfl (rd_move rfl rfl) ?_
  refine GL_split (t := 8) (b := _) rfl ?_ ?_
  · intro hb; (try simp only [decide_eq_true_eq, decide_eq_false_iff_not, Bool.not_eq_true', Bool.not_eq_false', Bool.not_eq_eq_eq_not, Bool.not_true, Bool.not_false, Int.not_lt, Int.not_le] at hb)
    refine GL_rd (v := .pointer (some ⟨_, _, none⟩)) (wn_on rfl rfl rfl rfl) rfl (rd_move rfl rfl) ?_
    refine GL_rd (wn_on rfl rfl rfl rfl) rfl (rd_nilCheck rfl rfl) ?_
    refine GL_rd (wn_on rfl rfl rfl rfl) rfl (rd_field rfl rfl fa126_0 _ rfl) ?_
    refine GL_rd (v := .slice _ _ _) (wn_on rfl rfl rfl rfl) rfl (rd_load rfl rfl Try.underlying23 rfl (cell_of_cells (g := p) (Res.kept (r := cells p 126 [_, .bool bad]) hg hp.mod (by simp)) 0)) ?_
    refine GL_call (wn_on rfl rfl rfl rfl) rfl rfl (word_Zero _ _ _ _ (hB _ (hp.mod.weaken (by simp)))) rfl ?_
    rintro _ w ⟨rfl, hk⟩
    have hp := hp.comp hk
    refine GL_rd (v := .bool _) (wn_none rfl) rfl (rd_pickT rfl rfl rfl) ?_
    refine GL_rd (v := .bool _) (wn_none rfl) rfl (rd_assign rfl rfl) ?_
    refine GL_nil ?_
    refine GW_ret ?_
    exact ⟨_, res1 Try.results32 (rv_tmp (v := .bool _) rfl rfl), by rw [hb]; rfl, hp⟩
  · intro hb; (try simp only [decide_eq_true_eq, decide_eq_false_iff_not, Bool.not_eq_true', Bool.not_eq_false', Bool.not_eq_eq_eq_not, Bool.not_true, Bool.not_false, Int.not_lt, Int.not_le] at hb)
    refine GL_pass (nw_off rfl rfl rfl rfl rfl) rfl ?_
    refine GL_pass (nw_off rfl rfl rfl rfl rfl) rfl ?_
    refine GL_pass (nw_off rfl rfl rfl rfl rfl) rfl ?_
    refine GL_pass (nw_off rfl rfl rfl rfl rfl) rfl ?_
    refine GL_pass (nw_off rfl rfl rfl rfl rfl) rfl ?_
    refine GL_rd (v := .bool _) (wn_none rfl) rfl (rd_pickF rfl rfl rfl) ?_
    refine GL_rd (v := .bool _) (wn_none rfl) rfl (rd_assign rfl rfl) ?_
    refine GL_nil ?_
    refine GW_ret ?_
    exact ⟨_, res1 Try.results32 (rv_tmp (v := .bool _) rfl rfl), by rw [hb]; rfl, hp⟩

theorem cur_Right (p : Nat) (bv : Value) (l : List UInt8) (bad : Bool) (w0 : World) (hg : (cells p 126 [bv, .bool bad]).at_ w0) (hB : ∀ w', Mod [p] w0 w' → Sl w' bv 1 l.length (bys l)) : Does Try.prog 33 #[.pointer (some ⟨p, 0, none⟩)] w0 fun v w' => v = .bool (!bad) ∧ Hp w0 [] w' [] := by
  obtain ⟨A, c, rfl⟩ := sl_shape (hB w0 (Mod.refl _ _))
  have hcap := (hB w0 (Mod.refl _ _)).cap
  refine does_of (l := [.pointer (some ⟨p, 0, none⟩)]) Try.func33 (by kernel_rfl) rfl Try.ntmps33 rfl rfl ?_
  have hp := Hp.refl w0 []
  refine GW_seq ?_
  refine GW_region ?_
  refine GL_rd (v := .bool _) (wn_none rfl) rfl (rd_assign rfl rfl) ?_
  refine GL_nil ?_
  refine GW_seq ?_
  refine GW_region ?_
  refine GL_rd (v := .pointer (some ⟨_, _, none⟩)) (wn_none rfl) rfl (rd_move rfl rfl) ?_
  refine GL_rd (wn_none rfl) rfl (rd_nilCheck rfl rfl) ?_
  refine GL_rd (wn_none rfl) rfl (rd_field rfl rfl fa126_1 _ rfl) ?_
  refine GL_rd (wn_none rfl) rfl (rd_load rfl rfl Try.underlying4 rfl (cell_of_cells hg 1)) ?_
  refine GL_rd (wn_none rfl) rfl (rd_not rfl rfl) ?_
  refine GL_rd (v := .bool _) (wn_none rfl) rfl (rd_assign rfl rfl) ?_
  refine GL_nil ?_
  refine GW_ret ?_
  exact ⟨_, res1 Try.results33 (rv_tmp (v := .bool _) rfl rfl), rfl, hp⟩

theorem word_works (w0 : World) : Does Try.prog 16 #[] w0 fun v w' => v = .bool true ∧ Hp w0 [] w' [] := by
  refine does_of (l := []) Try.func16 (by kernel_rfl) rfl Try.ntmps16 rfl rfl ?_
  have hp := Hp.refl w0 []
  refine GW_seq ?_
  refine GW_region ?_
  refine GL_rd (v := .bool _) (wn_none rfl) rfl (rd_assign rfl rfl) ?_
  refine GL_nil ?_
  refine GW_seq ?_
  refine GW_region ?_
  refine GL_call (wn_none rfl) rfl rfl (word_Pad ⟨#[97, 98]⟩ 4 _ (by decide)) rfl ?_
  rintro _ w ⟨x, rfl, hk⟩
  have hp := hp.comp hk
  refine GL_rd (v := .tuple _) (wn_none rfl) rfl (rd_move rfl rfl) ?_
  refine GL_rd (v := x) (wn_none rfl) rfl (rd_extract rfl rfl rfl) ?_
  refine GL_rd (v := .int _ _) (wn_none rfl) rfl (rd_extract rfl rfl rfl) ?_
  refine GL_rd (v := x) (wn_none rfl) rfl (rd_assign rfl rfl) ?_
  refine GL_rd (v := .int _ _) (wn_none rfl) rfl (rd_assign rfl rfl) ?_
  refine GL_nil ?_
  refine GW_seq ?_
  refine GW_region ?_
  refine GL_rd (v := x) (wn_none rfl) rfl (rd_move rfl rfl) ?_
  refine GL_call (wn_none rfl) rfl rfl (word_Unpad _ _ _ _ (Sl.row (hp.get 0 rfl))) rfl ?_
  rintro _ w ⟨rfl, hk⟩
  have hp := hp.comp hk
  refine GL_rd (v := .tuple _) (wn_none rfl) rfl (rd_move rfl rfl) ?_
  refine GL_rd (v := .string _) (wn_none rfl) rfl (rd_extract rfl rfl rfl) ?_
  refine GL_rd (v := .int _ _) (wn_none rfl) rfl (rd_extract rfl rfl rfl) ?_
  refine GL_rd (v := .string _) (wn_none rfl) rfl (rd_assign rfl rfl) ?_
  refine GL_rd (v := .int _ _) (wn_none rfl) rfl (rd_assign rfl rfl) ?_
  refine GL_nil ?_
  refine GW_seq ?_
  refine GW_region ?_
  refine GL_call (wn_none rfl) rfl rfl (word_Pad ⟨#[97, 98, 99, 100]⟩ 4 _ (by decide)) rfl ?_
  rintro _ w ⟨x2, rfl, hk⟩
  have hp := hp.comp hk
  refine GL_rd (v := .tuple _) (wn_none rfl) rfl (rd_move rfl rfl) ?_
  refine GL_rd (v := x2) (wn_none rfl) rfl (rd_extract rfl rfl rfl) ?_
  refine GL_rd (v := .int _ _) (wn_none rfl) rfl (rd_extract rfl rfl rfl) ?_
  refine GL_rd (v := x2) (wn_none rfl) rfl (rd_assign rfl rfl) ?_
  refine GL_rd (v := .int _ _) (wn_none rfl) rfl (rd_assign rfl rfl) ?_
  refine GL_nil ?_
  refine GW_seq ?_
  refine GW_region ?_
  refine GL_lit (L := [.int .u8 1, .int .u8 2, .int .u8 1, .int .u8 120, .int .u8 0, .int .u8 0]) (wn_none rfl) rfl rfl Try.underlying23 ts5 tz5 rfl (by kernel_rfl) rfl rfl hp ?_
  intro g w hp
  refine GL_call (wn_none rfl) rfl rfl (word_From _ _ _ _) rfl ?_
  rintro _ w ⟨p, rfl, hk⟩
  have hp := hp.comp hk
  refine GL_rd (v := .pointer (some ⟨_, _, none⟩)) (wn_none rfl) rfl (rd_assign rfl rfl) ?_
  refine GL_nil ?_
  refine GW_seq ?_
  refine GW_seq ?_
  refine GW_region ?_
  refine GL_rd (v := .pointer (some ⟨_, _, none⟩)) (wn_none rfl) rfl (rd_move rfl rfl) ?_
  refine GL_rd (wn_none rfl) rfl (rd_bin rfl rfl rfl (bo_pnil Try.underlying42)) ?_
  refine GL_nil ?_
  refine GW_false rfl ?_
  refine GW_skip ?_
  refine GW_seq ?_
  refine GW_region ?_
  refine GL_rd (v := .pointer (some ⟨_, _, none⟩)) (wn_none rfl) rfl (rd_move rfl rfl) ?_
  refine GL_call (wn_none rfl) rfl rfl (cur_Num p _ ([1, 2, 1, 120, 0, 0]) (false) 2 _ (hp.get 0 rfl) (fun w' h => (Sl.row (hp.stayAt 0 1 rfl rfl (by decide) h))) (by decide)) rfl ?_
  rintro _ w ⟨bv, hsuf, rfl, hk⟩
  have hp := hp.turnAtMore 0 rfl hk
  refine GL_rd (v := .pointer (some ⟨_, _, none⟩)) (wn_none rfl) rfl (rd_move rfl rfl) ?_
  refine GL_call (wn_none rfl) rfl rfl (cur_Text p _ (curL (false) ([1, 2, 1, 120, 0, 0]) 2) (!curOk (false) ([1, 2, 1, 120, 0, 0]) 2) 3 _ (hp.get 0 rfl) (fun w' h => (hsuf w' (Sl.row (hp.stayAt 0 1 rfl rfl (by decide) h)))) (by decide)) rfl ?_
  rintro _ w ⟨bv2, hsuf2, rfl, hk⟩
  have hp := hp.turnAtMore 0 rfl hk
  refine GL_rd (v := .int _ _) (wn_none rfl) rfl (rd_assign rfl rfl) ?_
  refine GL_rd (v := .string _) (wn_none rfl) rfl (rd_assign rfl rfl) ?_
  refine GL_nil ?_
  refine GW_seq ?_
  refine GW_region ?_
  refine GL_lit (L := [.int .u8 7]) (wn_none rfl) rfl rfl Try.underlying23 ts5 tz5 rfl (by kernel_rfl) rfl rfl hp ?_
  intro g2 w hp
  refine GL_call (wn_none rfl) rfl rfl (word_Whole _ _ [7] _ (Sl.row (hp.get 0 rfl))) rfl ?_
  rintro _ w ⟨rfl, hk⟩
  have hp := hp.comp hk
  refine GL_alloc (wn_none rfl) rfl rfl tz35 rfl hp ?_
  intro g3 w hp
  refine GL_store (i := 0) (wn_none rfl) rfl rfl rfl rfl ts35 rfl (by rw [bys_length, wholeL_length]) (bys_one _) hp rfl (by rw [List.length_replicate]; omega) (splice_all _ _ (by rw [bys_length, wholeL_length, List.length_replicate])) ?_
  intro w hp
  refine GL_nil ?_
  refine GW_seq ?_
  refine GW_region ?_
  refine GL_call (wn_none rfl) rfl rfl (word_Put 513 3 _ (by decide) (by decide)) rfl ?_
  rintro _ w ⟨gP, rfl, hk⟩
  have hp := hp.comp hk
  refine GL_rd (wn_none rfl) rfl (rd_toStr rfl rfl Try.underlying23 Try.underlying9 Try.underlying5 (Sl.row (hp.get 0 rfl))) ?_
  refine GL_rd (wn_none rfl) rfl (rd_bin rfl rfl rfl bo_seql) ?_
  refine GL_rd (v := .bool _) (wn_none rfl) rfl (rd_move rfl rfl) ?_
  refine GL_split (t := 37) (b := _) rfl ?_ ?_
  · intro hb; (try simp only [decide_eq_true_eq, decide_eq_false_iff_not, Bool.not_eq_true', Bool.not_eq_false', Bool.not_eq_eq_eq_not, Bool.not_true, Bool.not_false, Int.not_lt, Int.not_le] at hb)
    refine GL_lit (L := [.int .u8 1, .int .u8 2]) (wn_on rfl rfl rfl rfl) rfl rfl Try.underlying23 ts5 tz5 rfl (by kernel_rfl) rfl rfl hp ?_
    intro g4 w hp
    refine GL_call (wn_on rfl rfl rfl rfl) rfl rfl (word_Get _ _ [1, 2] _ (Sl.row (hp.get 0 rfl))) rfl ?_
    rintro _ w ⟨rfl, hk⟩
    have hp := hp.comp hk
    refine GL_rd (wn_on rfl rfl rfl rfl) rfl (rd_bin rfl rfl rfl bo_eql) ?_
    refine GL_rd (v := .bool _) (wn_none rfl) rfl (rd_pickT rfl rfl rfl) ?_
    refine GL_rd (v := .bool _) (wn_none rfl) rfl (rd_move rfl rfl) ?_
    refine GL_split (t := 42) (b := _) rfl ?_ ?_
    · intro hb2; (try simp only [decide_eq_true_eq, decide_eq_false_iff_not, Bool.not_eq_true', Bool.not_eq_false', Bool.not_eq_eq_eq_not, Bool.not_true, Bool.not_false, Int.not_lt, Int.not_le] at hb2)
      refine GL_rd (v := .int _ _) (wn_on rfl rfl rfl rfl) rfl (rd_move rfl rfl) ?_
      refine GL_rd (wn_on rfl rfl rfl rfl) rfl (rd_bin rfl rfl rfl bo_eql) ?_
      refine GL_rd (v := .bool _) (wn_none rfl) rfl (rd_pickT rfl rfl rfl) ?_
      refine GL_rd (v := .bool _) (wn_none rfl) rfl (rd_move rfl rfl) ?_
      refine GL_split (t := 46) (b := _) rfl ?_ ?_
      · intro hb3; (try simp only [decide_eq_true_eq, decide_eq_false_iff_not, Bool.not_eq_true', Bool.not_eq_false', Bool.not_eq_eq_eq_not, Bool.not_true, Bool.not_false, Int.not_lt, Int.not_le] at hb3)
        refine GL_rd (v := x) (wn_on rfl rfl rfl rfl) rfl (rd_move rfl rfl) ?_
        refine GL_rd (wn_on rfl rfl rfl rfl) rfl (rd_toStr rfl rfl Try.underlying23 Try.underlying9 Try.underlying5 (Sl.row (hp.get 7 rfl))) ?_
        refine GL_rd (wn_on rfl rfl rfl rfl) rfl (rd_bin rfl rfl rfl bo_seql) ?_
        refine GL_rd (v := .bool _) (wn_none rfl) rfl (rd_pickT rfl rfl rfl) ?_
        refine GL_rd (v := .bool _) (wn_none rfl) rfl (rd_move rfl rfl) ?_
        refine GL_split (t := 51) (b := _) rfl ?_ ?_
        · intro hb4; (try simp only [decide_eq_true_eq, decide_eq_false_iff_not, Bool.not_eq_true', Bool.not_eq_false', Bool.not_eq_eq_eq_not, Bool.not_true, Bool.not_false, Int.not_lt, Int.not_le] at hb4)
          refine GL_rd (v := .int _ _) (wn_on rfl rfl rfl rfl) rfl (rd_move rfl rfl) ?_
          refine GL_rd (wn_on rfl rfl rfl rfl) rfl (rd_bin rfl rfl rfl bo_eql) ?_
          refine GL_rd (v := .bool _) (wn_none rfl) rfl (rd_pickT rfl rfl rfl) ?_
          refine GL_rd (v := .bool _) (wn_none rfl) rfl (rd_move rfl rfl) ?_
          refine GL_split (t := 55) (b := _) rfl ?_ ?_
          · intro hb5; (try simp only [decide_eq_true_eq, decide_eq_false_iff_not, Bool.not_eq_true', Bool.not_eq_false', Bool.not_eq_eq_eq_not, Bool.not_true, Bool.not_false, Int.not_lt, Int.not_le] at hb5)
            refine GL_rd (v := .string _) (wn_on rfl rfl rfl rfl) rfl (rd_move rfl rfl) ?_
            refine GL_rd (wn_on rfl rfl rfl rfl) rfl (rd_bin rfl rfl rfl bo_seql) ?_
            refine GL_rd (v := .bool _) (wn_none rfl) rfl (rd_pickT rfl rfl rfl) ?_
            refine GL_rd (v := .bool _) (wn_none rfl) rfl (rd_move rfl rfl) ?_
            refine GL_split (t := 59) (b := _) rfl ?_ ?_
            · intro hb6; (try simp only [decide_eq_true_eq, decide_eq_false_iff_not, Bool.not_eq_true', Bool.not_eq_false', Bool.not_eq_eq_eq_not, Bool.not_true, Bool.not_false, Int.not_lt, Int.not_le] at hb6)
              refine GL_rd (v := .int _ _) (wn_on rfl rfl rfl rfl) rfl (rd_move rfl rfl) ?_
              refine GL_rd (wn_on rfl rfl rfl rfl) rfl (rd_bin rfl rfl rfl bo_eql) ?_
              refine GL_rd (v := .bool _) (wn_none rfl) rfl (rd_pickT rfl rfl rfl) ?_
              refine GL_rd (v := .bool _) (wn_none rfl) rfl (rd_move rfl rfl) ?_
              refine GL_split (t := 63) (b := _) rfl ?_ ?_
              · intro hb7; (try simp only [decide_eq_true_eq, decide_eq_false_iff_not, Bool.not_eq_true', Bool.not_eq_false', Bool.not_eq_eq_eq_not, Bool.not_true, Bool.not_false, Int.not_lt, Int.not_le] at hb7)
                refine GL_rd (v := .int _ _) (wn_on rfl rfl rfl rfl) rfl (rd_move rfl rfl) ?_
                refine GL_rd (wn_on rfl rfl rfl rfl) rfl (rd_bin rfl rfl rfl bo_eql) ?_
                refine GL_rd (v := .bool _) (wn_none rfl) rfl (rd_pickT rfl rfl rfl) ?_
                refine GL_rd (v := .bool _) (wn_none rfl) rfl (rd_move rfl rfl) ?_
                refine GL_split (t := 67) (b := _) rfl ?_ ?_
                · intro hb8; (try simp only [decide_eq_true_eq, decide_eq_false_iff_not, Bool.not_eq_true', Bool.not_eq_false', Bool.not_eq_eq_eq_not, Bool.not_true, Bool.not_false, Int.not_lt, Int.not_le] at hb8)
                  refine GL_rd (v := .string _) (wn_on rfl rfl rfl rfl) rfl (rd_move rfl rfl) ?_
                  refine GL_rd (wn_on rfl rfl rfl rfl) rfl (rd_bin rfl rfl rfl bo_seql) ?_
                  refine GL_rd (v := .bool _) (wn_none rfl) rfl (rd_pickT rfl rfl rfl) ?_
                  refine GL_rd (v := .bool _) (wn_none rfl) rfl (rd_move rfl rfl) ?_
                  refine GL_split (t := 71) (b := _) rfl ?_ ?_
                  · intro hb9; (try simp only [decide_eq_true_eq, decide_eq_false_iff_not, Bool.not_eq_true', Bool.not_eq_false', Bool.not_eq_eq_eq_not, Bool.not_true, Bool.not_false, Int.not_lt, Int.not_le] at hb9)
                    refine GL_rd (v := .pointer (some ⟨_, _, none⟩)) (wn_on rfl rfl rfl rfl) rfl (rd_move rfl rfl) ?_
                    refine GL_call (wn_on rfl rfl rfl rfl) rfl rfl (cur_Rest p _ (curL (!curOk (false) ([1, 2, 1, 120, 0, 0]) 2) (curL (false) ([1, 2, 1, 120, 0, 0]) 2) 3) (curTextBad (!curOk (false) ([1, 2, 1, 120, 0, 0]) 2) (curL (false) ([1, 2, 1, 120, 0, 0]) 2) 3) _ (hp.get 4 rfl) (fun w' h => (hsuf2 w' (hsuf w' (Sl.row (hp.stayAt 4 5 rfl rfl (by decide) h)))))) rfl ?_
                    rintro _ w ⟨rfl, hk⟩
                    have hp := hp.comp hk
                    refine GL_rd (v := .bool _) (wn_none rfl) rfl (rd_pickT rfl rfl rfl) ?_
                    refine GL_rd (v := .bool _) (wn_none rfl) rfl (rd_move rfl rfl) ?_
                    refine GL_split (t := 75) (b := _) rfl ?_ ?_
                    · intro hb10; (try simp only [decide_eq_true_eq, decide_eq_false_iff_not, Bool.not_eq_true', Bool.not_eq_false', Bool.not_eq_eq_eq_not, Bool.not_true, Bool.not_false, Int.not_lt, Int.not_le] at hb10)
                      refine GL_rd (v := .pointer (some ⟨_, _, none⟩)) (wn_on rfl rfl rfl rfl) rfl (rd_move rfl rfl) ?_
                      refine GL_call (wn_on rfl rfl rfl rfl) rfl rfl (cur_Right p _ (curL (!curOk (false) ([1, 2, 1, 120, 0, 0]) 2) (curL (false) ([1, 2, 1, 120, 0, 0]) 2) 3) (curTextBad (!curOk (false) ([1, 2, 1, 120, 0, 0]) 2) (curL (false) ([1, 2, 1, 120, 0, 0]) 2) 3) _ (hp.get 4 rfl) (fun w' h => (hsuf2 w' (hsuf w' (Sl.row (hp.stayAt 4 5 rfl rfl (by decide) h)))))) rfl ?_
                      rintro _ w ⟨rfl, hk⟩
                      have hp := hp.comp hk
                      refine GL_rd (v := .bool _) (wn_none rfl) rfl (rd_pickT rfl rfl rfl) ?_
                      refine GL_rd (v := .bool _) (wn_none rfl) rfl (rd_move rfl rfl) ?_
                      refine GL_split (t := 79) (b := _) rfl ?_ ?_
                      · intro hb11; (try simp only [decide_eq_true_eq, decide_eq_false_iff_not, Bool.not_eq_true', Bool.not_eq_false', Bool.not_eq_eq_eq_not, Bool.not_true, Bool.not_false, Int.not_lt, Int.not_le] at hb11)
                        refine GL_call (wn_on rfl rfl rfl rfl) rfl rfl (word_Zero _ _ [] _ (Sl.nil _ 1)) rfl ?_
                        rintro _ w ⟨rfl, hk⟩
                        have hp := hp.comp hk
                        refine GL_rd (v := .bool _) (wn_none rfl) rfl (rd_pickT rfl rfl rfl) ?_
                        refine GL_rd (v := .bool _) (wn_none rfl) rfl (rd_move rfl rfl) ?_
                        refine GL_split (t := 82) (b := _) rfl ?_ ?_
                        · intro hb12; (try simp only [decide_eq_true_eq, decide_eq_false_iff_not, Bool.not_eq_true', Bool.not_eq_false', Bool.not_eq_eq_eq_not, Bool.not_true, Bool.not_false, Int.not_lt, Int.not_le] at hb12)
                          refine GL_lit (L := [.int .u8 1]) (wn_on rfl rfl rfl rfl) rfl rfl Try.underlying23 ts5 tz5 rfl (by kernel_rfl) rfl rfl hp ?_
                          intro g5 w hp
                          refine GL_call (wn_on rfl rfl rfl rfl) rfl rfl (word_Zero _ _ [1] _ (Sl.row (hp.get 0 rfl))) rfl ?_
                          rintro _ w ⟨rfl, hk⟩
                          have hp := hp.comp hk
                          refine GL_rd (wn_on rfl rfl rfl rfl) rfl (rd_not rfl rfl) ?_
                          refine GL_rd (v := .bool _) (wn_none rfl) rfl (rd_pickT rfl rfl rfl) ?_
                          refine GL_rd (v := .bool _) (wn_none rfl) rfl (rd_move rfl rfl) ?_
                          refine GL_split (t := 87) (b := _) rfl ?_ ?_
                          · intro hb13; (try simp only [decide_eq_true_eq, decide_eq_false_iff_not, Bool.not_eq_true', Bool.not_eq_false', Bool.not_eq_eq_eq_not, Bool.not_true, Bool.not_false, Int.not_lt, Int.not_le] at hb13)
                            refine GL_rd (wn_on rfl rfl rfl rfl) rfl (rd_indexA (j := 0) rfl rfl rfl Try.underlying35 ts5 rfl (by omega) _ rfl) ?_
                            refine GL_rd (wn_on rfl rfl rfl rfl) rfl (rd_load rfl rfl Try.underlying5 rfl ((cell_of_cells (hp.get 3 rfl) _).trans rfl)) ?_
                            refine GL_rd (wn_on rfl rfl rfl rfl) rfl (rd_bin rfl rfl rfl bo_eql) ?_
                            refine GL_rd (v := .bool _) (wn_none rfl) rfl (rd_pickT rfl rfl rfl) ?_
                            refine GL_rd (v := .bool _) (wn_none rfl) rfl (rd_move rfl rfl) ?_
                            refine GL_split (t := 92) (b := _) rfl ?_ ?_
                            · intro hb14; (try simp only [decide_eq_true_eq, decide_eq_false_iff_not, Bool.not_eq_true', Bool.not_eq_false', Bool.not_eq_eq_eq_not, Bool.not_true, Bool.not_false, Int.not_lt, Int.not_le] at hb14)
                              refine GL_rd (wn_on rfl rfl rfl rfl) rfl (rd_indexA (j := 1) rfl rfl rfl Try.underlying35 ts5 rfl (by omega) _ rfl) ?_
                              refine GL_rd (wn_on rfl rfl rfl rfl) rfl (rd_load rfl rfl Try.underlying5 rfl ((cell_of_cells (hp.get 3 rfl) _).trans rfl)) ?_
                              refine GL_rd (wn_on rfl rfl rfl rfl) rfl (rd_bin rfl rfl rfl bo_eql) ?_
                              refine GL_rd (v := .bool _) (wn_none rfl) rfl (rd_pickT rfl rfl rfl) ?_
                              refine GL_rd (v := .bool _) (wn_none rfl) rfl (rd_move rfl rfl) ?_
                              refine GL_split (t := 97) (b := _) rfl ?_ ?_
                              · intro hb15; (try simp only [decide_eq_true_eq, decide_eq_false_iff_not, Bool.not_eq_true', Bool.not_eq_false', Bool.not_eq_eq_eq_not, Bool.not_true, Bool.not_false, Int.not_lt, Int.not_le] at hb15)
                                refine GL_call (wn_on rfl rfl rfl rfl) rfl rfl (word_From _ _ _ _) rfl ?_
                                rintro _ w ⟨p2, rfl, hk⟩
                                have hp := hp.comp hk
                                refine GL_call (wn_on rfl rfl rfl rfl) rfl rfl (cur_Bytes p2 _ ([]) (false) 2 _ (hp.get 0 rfl) (fun w' h => (Sl.nil w' 1)) (by decide)) rfl ?_
                                rintro v3 w ⟨bv3, hsuf3, hk⟩
                                have hp := hp.turnAtMore 0 rfl hk
                                obtain ⟨Av3, cv3, rfl⟩ := row_shape (hp.get 0 rfl)
                                refine GL_rd (wn_on rfl rfl rfl rfl) rfl (rd_len rfl rfl Try.underlying23) ?_
                                refine GL_rd (wn_on rfl rfl rfl rfl) rfl (rd_bin rfl rfl rfl bo_eql) ?_
                                refine GL_rd (v := .bool _) (wn_none rfl) rfl (rd_pickT rfl rfl rfl) ?_
                                refine GL_rd (v := .bool _) (wn_none rfl) rfl (rd_assign rfl rfl) ?_
                                refine GL_nil ?_
                                refine GW_ret ?_
                                exact ⟨_, res1 Try.results16 (rv_tmp (v := .bool _) rfl rfl), rfl, hp.mods⟩
                              · intro hb15; (try simp only [decide_eq_true_eq, decide_eq_false_iff_not, Bool.not_eq_true', Bool.not_eq_false', Bool.not_eq_eq_eq_not, Bool.not_true, Bool.not_false, Int.not_lt, Int.not_le] at hb15)
                                exact absurd hb15 (by decide)
                            · intro hb14; (try simp only [decide_eq_true_eq, decide_eq_false_iff_not, Bool.not_eq_true', Bool.not_eq_false', Bool.not_eq_eq_eq_not, Bool.not_true, Bool.not_false, Int.not_lt, Int.not_le] at hb14)
                              exact absurd hb14 (by decide)
                          · intro hb13; (try simp only [decide_eq_true_eq, decide_eq_false_iff_not, Bool.not_eq_true', Bool.not_eq_false', Bool.not_eq_eq_eq_not, Bool.not_true, Bool.not_false, Int.not_lt, Int.not_le] at hb13)
                            exact absurd hb13 (by decide)
                        · intro hb12; (try simp only [decide_eq_true_eq, decide_eq_false_iff_not, Bool.not_eq_true', Bool.not_eq_false', Bool.not_eq_eq_eq_not, Bool.not_true, Bool.not_false, Int.not_lt, Int.not_le] at hb12)
                          exact absurd hb12 (by decide)
                      · intro hb11; (try simp only [decide_eq_true_eq, decide_eq_false_iff_not, Bool.not_eq_true', Bool.not_eq_false', Bool.not_eq_eq_eq_not, Bool.not_true, Bool.not_false, Int.not_lt, Int.not_le] at hb11)
                        exact absurd hb11 (by decide)
                    · intro hb10; (try simp only [decide_eq_true_eq, decide_eq_false_iff_not, Bool.not_eq_true', Bool.not_eq_false', Bool.not_eq_eq_eq_not, Bool.not_true, Bool.not_false, Int.not_lt, Int.not_le] at hb10)
                      exact absurd hb10 (by decide)
                  · intro hb9; (try simp only [decide_eq_true_eq, decide_eq_false_iff_not, Bool.not_eq_true', Bool.not_eq_false', Bool.not_eq_eq_eq_not, Bool.not_true, Bool.not_false, Int.not_lt, Int.not_le] at hb9)
                    exact absurd hb9 (by decide)
                · intro hb8; (try simp only [decide_eq_true_eq, decide_eq_false_iff_not, Bool.not_eq_true', Bool.not_eq_false', Bool.not_eq_eq_eq_not, Bool.not_true, Bool.not_false, Int.not_lt, Int.not_le] at hb8)
                  exact absurd hb8 (by decide)
              · intro hb7; (try simp only [decide_eq_true_eq, decide_eq_false_iff_not, Bool.not_eq_true', Bool.not_eq_false', Bool.not_eq_eq_eq_not, Bool.not_true, Bool.not_false, Int.not_lt, Int.not_le] at hb7)
                exact absurd hb7 (by decide)
            · intro hb6; (try simp only [decide_eq_true_eq, decide_eq_false_iff_not, Bool.not_eq_true', Bool.not_eq_false', Bool.not_eq_eq_eq_not, Bool.not_true, Bool.not_false, Int.not_lt, Int.not_le] at hb6)
              exact absurd hb6 (by decide)
          · intro hb5; (try simp only [decide_eq_true_eq, decide_eq_false_iff_not, Bool.not_eq_true', Bool.not_eq_false', Bool.not_eq_eq_eq_not, Bool.not_true, Bool.not_false, Int.not_lt, Int.not_le] at hb5)
            exact absurd hb5 (by decide)
        · intro hb4; (try simp only [decide_eq_true_eq, decide_eq_false_iff_not, Bool.not_eq_true', Bool.not_eq_false', Bool.not_eq_eq_eq_not, Bool.not_true, Bool.not_false, Int.not_lt, Int.not_le] at hb4)
          exact absurd hb4 (by decide)
      · intro hb3; (try simp only [decide_eq_true_eq, decide_eq_false_iff_not, Bool.not_eq_true', Bool.not_eq_false', Bool.not_eq_eq_eq_not, Bool.not_true, Bool.not_false, Int.not_lt, Int.not_le] at hb3)
        exact absurd hb3 (by decide)
    · intro hb2; (try simp only [decide_eq_true_eq, decide_eq_false_iff_not, Bool.not_eq_true', Bool.not_eq_false', Bool.not_eq_eq_eq_not, Bool.not_true, Bool.not_false, Int.not_lt, Int.not_le] at hb2)
      exact absurd hb2 (by decide)
  · intro hb; (try simp only [decide_eq_true_eq, decide_eq_false_iff_not, Bool.not_eq_true', Bool.not_eq_false', Bool.not_eq_eq_eq_not, Bool.not_true, Bool.not_false, Int.not_lt, Int.not_le] at hb)
    exact absurd hb (by decide)

theorem law_Numbers (n : Nat) (size : Int) (hn : n < 18446744073709551616) (sv : Value) (m : Nat) (l : List UInt8) (w0 : World) (hs : Sl w0 sv 1 m (bys l)) : Does Try.prog 3 #[.int .u64 (n : Int), .int .i64 size, sv] w0 fun v w' => v = .bool true ∧ Hp w0 [] w' [] := by
  obtain ⟨A, c, rfl⟩ := sl_shape hs
  have hml := hs.blen
  have hmle := hs.le
  refine does_of (l := [.int .u64 (n : Int), .int .i64 size, .slice A m c]) Try.func3 (by kernel_rfl) rfl Try.ntmps3 rfl rfl ?_
  have hp := Hp.refl w0 []
  refine GW_seq ?_
  refine GW_region ?_
  refine GL_rd (v := .bool _) (wn_none rfl) rfl (rd_assign rfl rfl) ?_
  refine GL_nil ?_
  refine GW_seq ?_
  refine GW_seq ?_
  refine GW_region ?_
  refine GL_rd (v := .int _ _) (wn_none rfl) rfl (rd_move rfl rfl) ?_
  refine GL_rd (wn_none rfl) rfl (rd_bin rfl rfl rfl bo_gtr) ?_
  refine GL_rd (v := .bool _) (wn_none rfl) rfl (rd_move rfl rfl) ?_
  refine GL_split (t := 9) (b := _) rfl ?_ ?_
  · intro hb; (try simp only [decide_eq_true_eq, decide_eq_false_iff_not, Bool.not_eq_true', Bool.not_eq_false', Bool.not_eq_eq_eq_not, Bool.not_true, Bool.not_false, Int.not_lt, Int.not_le] at hb)
    refine GL_pass (nw_off rfl rfl rfl rfl rfl) rfl ?_
    refine GL_pass (nw_off rfl rfl rfl rfl rfl) rfl ?_
    refine GL_pass (nw_off rfl rfl rfl rfl rfl) rfl ?_
    refine GL_rd (v := .bool _) (wn_none rfl) rfl (rd_pickT rfl rfl rfl) ?_
    refine GL_nil ?_
    refine GW_true rfl ?_
    refine GW_seq ?_
    refine GW_region ?_
    refine GL_call (wn_none rfl) rfl rfl (word_works _) rfl ?_
    rintro _ w ⟨rfl, hk⟩
    have hp := hp.comp hk
    refine GL_rd (v := .bool _) (wn_none rfl) rfl (rd_assign rfl rfl) ?_
    refine GL_nil ?_
    refine GW_ret ?_
    exact ⟨_, res1 Try.results3 (rv_tmp (v := .bool _) rfl rfl), rfl, hp.mods⟩
  · intro hb; (try simp only [decide_eq_true_eq, decide_eq_false_iff_not, Bool.not_eq_true', Bool.not_eq_false', Bool.not_eq_eq_eq_not, Bool.not_true, Bool.not_false, Int.not_lt, Int.not_le] at hb)
    refine GL_rd (v := .slice _ _ _) (wn_on rfl rfl rfl rfl) rfl (rd_move rfl rfl) ?_
    refine GL_call (wn_on rfl rfl rfl rfl) rfl rfl (word_Few _ _ _ _) rfl ?_
    rintro _ w ⟨rfl, hk⟩
    have hp := hp.comp hk
    refine GL_rd (wn_on rfl rfl rfl rfl) rfl (rd_bin rfl rfl rfl bo_gtr) ?_
    refine GL_rd (v := .bool _) (wn_none rfl) rfl (rd_pickF rfl rfl rfl) ?_
    refine GL_nil ?_
    refine GW_cond rfl (fun hb2 => ?_) (fun hb2 => ?_)
    · (try simp only [decide_eq_true_eq, decide_eq_false_iff_not, Bool.not_eq_true', Bool.not_eq_false', Bool.not_eq_eq_eq_not, Bool.not_true, Bool.not_false, Int.not_lt, Int.not_le] at hb2)
      refine GW_seq ?_
      refine GW_region ?_
      refine GL_call (wn_none rfl) rfl rfl (word_works _) rfl ?_
      rintro _ w ⟨rfl, hk⟩
      have hp := hp.comp hk
      refine GL_rd (v := .bool _) (wn_none rfl) rfl (rd_assign rfl rfl) ?_
      refine GL_nil ?_
      refine GW_ret ?_
      exact ⟨_, res1 Try.results3 (rv_tmp (v := .bool _) rfl rfl), rfl, hp.mods⟩
    · (try simp only [decide_eq_true_eq, decide_eq_false_iff_not, Bool.not_eq_true', Bool.not_eq_false', Bool.not_eq_eq_eq_not, Bool.not_true, Bool.not_false, Int.not_lt, Int.not_le] at hb2)
      have hm3 : m ≤ 3000 := by simp only [fewI] at hb2; split at hb2 <;> omega
      refine GW_skip ?_
      refine GW_seq ?_
      refine GW_region ?_
      refine GL_rd (v := .int _ _) (wn_none rfl) rfl (rd_move rfl rfl) ?_
      refine GL_rd (v := .int _ _) (wn_none rfl) rfl (rd_move rfl rfl) ?_
      refine GL_call (wn_none rfl) rfl rfl (word_Put n size _ hn (by omega)) rfl ?_
      rintro _ w ⟨gP, rfl, hk⟩
      have hp := hp.comp hk
      refine GL_rd (v := .int _ _) (wn_none rfl) rfl (rd_move rfl rfl) ?_
      refine GL_rd (v := .int _ _) (wn_none rfl) rfl (rd_move rfl rfl) ?_
      refine GL_call (wn_none rfl) rfl rfl (ref_Put size.toNat n size _ hn (by omega) rfl) rfl ?_
      rintro v2 w hk
      have hp := hp.comp hk
      refine GL_call (wn_none rfl) rfl rfl (ref_Same _ _ _ _ _ _ _ (Sl.row (hp.get 1 rfl)) (Sl.row (hp.get 0 rfl))) rfl ?_
      rintro _ w ⟨rfl, hk⟩
      have hp := hp.comp hk
      refine GL_rd (v := .bool _) (wn_none rfl) rfl (rd_move rfl rfl) ?_
      refine GL_split (t := 22) (b := _) rfl ?_ ?_
      · intro hb3; (try simp only [decide_eq_true_eq, decide_eq_false_iff_not, Bool.not_eq_true', Bool.not_eq_false', Bool.not_eq_eq_eq_not, Bool.not_true, Bool.not_false, Int.not_lt, Int.not_le] at hb3)
        refine GL_rd (v := .slice _ _ _) (wn_on rfl rfl rfl rfl) rfl (rd_move rfl rfl) ?_
        refine GL_call (wn_on rfl rfl rfl rfl) rfl rfl (word_Get _ _ _ _ (hs.keep hp.mod)) rfl ?_
        rintro _ w ⟨rfl, hk⟩
        have hp := hp.comp hk
        refine GL_rd (v := .slice _ _ _) (wn_on rfl rfl rfl rfl) rfl (rd_move rfl rfl) ?_
        refine GL_call (wn_on rfl rfl rfl rfl) rfl rfl (ref_Get m _ m _ _ (hs.keep hp.mod) rfl) rfl ?_
        rintro _ w ⟨rfl, hk⟩
        have hp := hp.comp hk
        refine GL_rd (wn_on rfl rfl rfl rfl) rfl (rd_bin rfl rfl rfl bo_eql) ?_
        refine GL_rd (v := .bool _) (wn_none rfl) rfl (rd_pickT rfl rfl rfl) ?_
        refine GL_rd (v := .bool _) (wn_none rfl) rfl (rd_move rfl rfl) ?_
        refine GL_split (t := 29) (b := _) rfl ?_ ?_
        · intro hb4; (try simp only [decide_eq_true_eq, decide_eq_false_iff_not, Bool.not_eq_true', Bool.not_eq_false', Bool.not_eq_eq_eq_not, Bool.not_true, Bool.not_false, Int.not_lt, Int.not_le] at hb4)
          refine GL_call (wn_on rfl rfl rfl rfl) rfl rfl (word_works _) rfl ?_
          rintro _ w ⟨rfl, hk⟩
          have hp := hp.comp hk
          refine GL_rd (v := .bool _) (wn_none rfl) rfl (rd_pickT rfl rfl rfl) ?_
          refine GL_rd (v := .bool _) (wn_none rfl) rfl (rd_assign rfl rfl) ?_
          refine GL_nil ?_
          refine GW_ret ?_
          exact ⟨_, res1 Try.results3 (rv_tmp (v := .bool _) rfl rfl), rfl, hp.mods⟩
        · intro hb4; (try simp only [decide_eq_true_eq, decide_eq_false_iff_not, Bool.not_eq_true', Bool.not_eq_false', Bool.not_eq_eq_eq_not, Bool.not_true, Bool.not_false, Int.not_lt, Int.not_le] at hb4)
          all_goals first | exact absurd rfl hb4 | exact absurd hb4 (by decide) | exact absurd hb4 (by simp)
      · intro hb3; (try simp only [decide_eq_true_eq, decide_eq_false_iff_not, Bool.not_eq_true', Bool.not_eq_false', Bool.not_eq_eq_eq_not, Bool.not_true, Bool.not_false, Int.not_lt, Int.not_le] at hb3)
        all_goals first | exact absurd rfl hb3 | exact absurd hb3 (by decide) | exact absurd hb3 (by simp)

theorem law_Texts (s : ByteArray) (size : Int) (sv : Value) (m : Nat) (l : List UInt8) (w0 : World) (hs : Sl w0 sv 1 m (bys l)) : Does Try.prog 4 #[.string s, .int .i64 size, sv] w0 fun v w' => v = .bool true ∧ Hp w0 [] w' [] := by
  obtain ⟨A, c, rfl⟩ := sl_shape hs
  have hml := hs.blen
  have hmle := hs.le
  refine does_of (l := [.string s, .int .i64 size, .slice A m c]) Try.func4 (by kernel_rfl) rfl Try.ntmps4 rfl rfl ?_
  have hp := Hp.refl w0 []
  refine GW_seq ?_
  refine GW_region ?_
  refine GL_rd (v := .bool _) (wn_none rfl) rfl (rd_assign rfl rfl) ?_
  refine GL_nil ?_
  refine GW_seq ?_
  refine GW_seq ?_
  refine GW_region ?_
  refine GL_rd (v := .string _) (wn_none rfl) rfl (rd_move rfl rfl) ?_
  refine GL_rd (wn_none rfl) rfl (rd_lenS rfl rfl Try.underlying9) ?_
  refine GL_rd (wn_none rfl) rfl (rd_bin rfl rfl rfl bo_gtr) ?_
  refine GL_rd (v := .bool _) (wn_none rfl) rfl (rd_move rfl rfl) ?_
  refine GL_split (t := 20) (b := _) rfl ?_ ?_
  · intro hb; (try simp only [decide_eq_true_eq, decide_eq_false_iff_not, Bool.not_eq_true', Bool.not_eq_false', Bool.not_eq_eq_eq_not, Bool.not_true, Bool.not_false, Int.not_lt, Int.not_le] at hb)
    refine GL_pass (nw_off rfl rfl rfl rfl rfl) rfl ?_
    refine GL_pass (nw_off rfl rfl rfl rfl rfl) rfl ?_
    refine GL_pass (nw_off rfl rfl rfl rfl rfl) rfl ?_
    refine GL_rd (v := .bool _) (wn_none rfl) rfl (rd_pickT rfl rfl rfl) ?_
    refine GL_nil ?_
    refine GW_true rfl ?_
    refine GW_seq ?_
    refine GW_region ?_
    refine GL_call (wn_none rfl) rfl rfl (word_works _) rfl ?_
    rintro _ w ⟨rfl, hk⟩
    have hp := hp.comp hk
    refine GL_rd (v := .bool _) (wn_none rfl) rfl (rd_assign rfl rfl) ?_
    refine GL_nil ?_
    refine GW_ret ?_
    exact ⟨_, res1 Try.results4 (rv_tmp (v := .bool _) rfl rfl), rfl, hp.mods⟩
  · intro hb; (try simp only [decide_eq_true_eq, decide_eq_false_iff_not, Bool.not_eq_true', Bool.not_eq_false', Bool.not_eq_eq_eq_not, Bool.not_true, Bool.not_false, Int.not_lt, Int.not_le] at hb)
    refine GL_rd (v := .slice _ _ _) (wn_on rfl rfl rfl rfl) rfl (rd_move rfl rfl) ?_
    refine GL_call (wn_on rfl rfl rfl rfl) rfl rfl (word_Few _ _ _ _) rfl ?_
    rintro _ w ⟨rfl, hk⟩
    have hp := hp.comp hk
    refine GL_rd (wn_on rfl rfl rfl rfl) rfl (rd_bin rfl rfl rfl bo_gtr) ?_
    refine GL_rd (v := .bool _) (wn_none rfl) rfl (rd_pickF rfl rfl rfl) ?_
    refine GL_nil ?_
    refine GW_cond rfl (fun hb2 => ?_) (fun hb2 => ?_)
    · (try simp only [decide_eq_true_eq, decide_eq_false_iff_not, Bool.not_eq_true', Bool.not_eq_false', Bool.not_eq_eq_eq_not, Bool.not_true, Bool.not_false, Int.not_lt, Int.not_le] at hb2)
      refine GW_seq ?_
      refine GW_region ?_
      refine GL_call (wn_none rfl) rfl rfl (word_works _) rfl ?_
      rintro _ w ⟨rfl, hk⟩
      have hp := hp.comp hk
      refine GL_rd (v := .bool _) (wn_none rfl) rfl (rd_assign rfl rfl) ?_
      refine GL_nil ?_
      refine GW_ret ?_
      exact ⟨_, res1 Try.results4 (rv_tmp (v := .bool _) rfl rfl), rfl, hp.mods⟩
    · (try simp only [decide_eq_true_eq, decide_eq_false_iff_not, Bool.not_eq_true', Bool.not_eq_false', Bool.not_eq_eq_eq_not, Bool.not_true, Bool.not_false, Int.not_lt, Int.not_le] at hb2)
      have hm3 : m ≤ 3000 := by simp only [fewI] at hb2; split at hb2 <;> omega
      refine GW_skip ?_
      refine GW_seq ?_
      refine GW_region ?_
      refine GL_rd (v := .string _) (wn_none rfl) rfl (rd_move rfl rfl) ?_
      refine GL_rd (v := .int _ _) (wn_none rfl) rfl (rd_move rfl rfl) ?_
      refine GL_call (wn_none rfl) rfl rfl (word_Pad s size _ (by omega)) rfl ?_
      rintro _ w ⟨x, rfl, hk⟩
      have hp := hp.comp hk
      refine GL_rd (v := .tuple _) (wn_none rfl) rfl (rd_move rfl rfl) ?_
      refine GL_rd (v := x) (wn_none rfl) rfl (rd_extract rfl rfl rfl) ?_
      refine GL_rd (v := .int _ _) (wn_none rfl) rfl (rd_extract rfl rfl rfl) ?_
      refine GL_rd (v := x) (wn_none rfl) rfl (rd_assign rfl rfl) ?_
      refine GL_rd (v := .int _ _) (wn_none rfl) rfl (rd_assign rfl rfl) ?_
      refine GL_nil ?_
      refine GW_seq ?_
      refine GW_region ?_
      refine GL_rd (v := .string _) (wn_none rfl) rfl (rd_move rfl rfl) ?_
      refine GL_rd (v := .int _ _) (wn_none rfl) rfl (rd_move rfl rfl) ?_
      refine GL_call (wn_none rfl) rfl rfl (ref_Pad s size _ (by omega)) rfl ?_
      rintro _ w ⟨x2, rfl, hk⟩
      have hp := hp.comp hk
      refine GL_rd (v := .tuple _) (wn_none rfl) rfl (rd_move rfl rfl) ?_
      refine GL_rd (v := x2) (wn_none rfl) rfl (rd_extract rfl rfl rfl) ?_
      refine GL_rd (v := .int _ _) (wn_none rfl) rfl (rd_extract rfl rfl rfl) ?_
      refine GL_rd (v := x2) (wn_none rfl) rfl (rd_assign rfl rfl) ?_
      refine GL_rd (v := .int _ _) (wn_none rfl) rfl (rd_assign rfl rfl) ?_
      refine GL_nil ?_
      refine GW_seq ?_
      refine GW_region ?_
      refine GL_rd (v := .slice _ _ _) (wn_none rfl) rfl (rd_move rfl rfl) ?_
      refine GL_call (wn_none rfl) rfl rfl (word_Unpad _ _ _ _ (hs.keep hp.mod)) rfl ?_
      rintro _ w ⟨rfl, hk⟩
      have hp := hp.comp hk
      refine GL_rd (v := .tuple _) (wn_none rfl) rfl (rd_move rfl rfl) ?_
      refine GL_rd (v := .string _) (wn_none rfl) rfl (rd_extract rfl rfl rfl) ?_
      refine GL_rd (v := .int _ _) (wn_none rfl) rfl (rd_extract rfl rfl rfl) ?_
      refine GL_rd (v := .string _) (wn_none rfl) rfl (rd_assign rfl rfl) ?_
      refine GL_rd (v := .int _ _) (wn_none rfl) rfl (rd_assign rfl rfl) ?_
      refine GL_nil ?_
      refine GW_seq ?_
      refine GW_region ?_
      refine GL_rd (v := .slice _ _ _) (wn_none rfl) rfl (rd_move rfl rfl) ?_
      refine GL_call (wn_none rfl) rfl rfl (ref_Unpad _ _ _ _ (hs.keep hp.mod)) rfl ?_
      rintro _ w ⟨rfl, hk⟩
      have hp := hp.comp hk
      refine GL_rd (v := .tuple _) (wn_none rfl) rfl (rd_move rfl rfl) ?_
      refine GL_rd (v := .string _) (wn_none rfl) rfl (rd_extract rfl rfl rfl) ?_
      refine GL_rd (v := .int _ _) (wn_none rfl) rfl (rd_extract rfl rfl rfl) ?_
      refine GL_rd (v := .string _) (wn_none rfl) rfl (rd_assign rfl rfl) ?_
      refine GL_rd (v := .int _ _) (wn_none rfl) rfl (rd_assign rfl rfl) ?_
      refine GL_nil ?_
      refine GW_seq ?_
      refine GW_region ?_
      refine GL_rd (v := .slice _ _ _) (wn_none rfl) rfl (rd_move rfl rfl) ?_
      refine GL_call (wn_none rfl) rfl rfl (word_Whole _ _ _ _ (hs.keep hp.mod)) rfl ?_
      rintro _ w ⟨rfl, hk⟩
      have hp := hp.comp hk
      refine GL_alloc (wn_none rfl) rfl rfl tz35 rfl hp ?_
      intro g w hp
      refine GL_store (i := 0) (wn_none rfl) rfl rfl rfl rfl ts35 rfl (by rw [bys_length, wholeL_length]) (bys_one _) hp rfl (by rw [List.length_replicate]; omega) (splice_all _ _ (by rw [bys_length, wholeL_length, List.length_replicate])) ?_
      intro w hp
      refine GL_nil ?_
      refine GW_seq ?_
      refine GW_seq ?_
      refine GW_region ?_
      refine GL_rd (v := .int _ _) (wn_none rfl) rfl (rd_assign rfl rfl) ?_
      refine GL_nil ?_
      refine GW_block ?_
      refine GW_loop ?_
      refine Lp_ind (α := Nat) (fun a f w' => match a with | i => ∃ fz, f = (upd (upd (upd (upd (upd (upd (upd (upd (upd (upd (upd fz 2 (.slice A m c)) 7 (x)) 8 (.int .i64 (padC s.size size))) 9 (x2)) 10 (.int .i64 (padC s.size size))) 11 (.string ⟨(unpadL l).toArray⟩)) 12 (.int .i64 (unpadC l))) 13 (.string ⟨(unpadL l).toArray⟩)) 14 (.int .i64 (unpadC l))) 15 (.pointer (some ⟨g, 0, none⟩))) 16 (.int .i64 (i : Int))) ∧ Hp w0 [] w' [cells g 35 (bys (wholeL l)), .row 5 1 x2 (padL s.data.toList size).length (bys (padL s.data.toList size)), .row 5 1 x (padL s.data.toList size).length (bys (padL s.data.toList size))] ∧ (i ≤ 256)) (fun a => match a with | i => 256 - i) ?_ 0 _ _ ?_
      · rintro i f wz ⟨fz, rfl, hp, hi0⟩ ihL0
        refine Lp_round ?_
        refine GW_seq ?_
        refine GW_seq ?_
        refine GW_region ?_
        refine GL_rd (v := .int _ _) (wn_none rfl) rfl (rd_move rfl rfl) ?_
        refine GL_rd (wn_none rfl) rfl (rd_bin rfl rfl rfl bo_lss) ?_
        refine GL_nil ?_
        refine GW_cond rfl (fun hb3 => ?_) (fun hb3 => ?_)
        · (try simp only [decide_eq_true_eq, decide_eq_false_iff_not, Bool.not_eq_true', Bool.not_eq_false', Bool.not_eq_eq_eq_not, Bool.not_true, Bool.not_false, Int.not_lt, Int.not_le] at hb3)
          have hi := hb3
          refine GW_skip ?_
          refine GW_seq ?_
          refine GW_block ?_
          refine GW_seq ?_
          refine GW_drawnK 26 (.one 0 true (.one 1 true (.one 2 true (.one 3 true (.one 4 true (.one 5 true (.one 6 true (.one 7 true (.one 8 true (.one 9 true (.one 10 true (.one 11 true (.one 12 true (.one 13 true (.one 14 true (.one 15 true (.one 16 true (.one 17 true (.one 18 true (.one 19 true (.one 20 true (.one 21 true (.one 22 true (.one 23 true (.one 24 true (.one 25 true .nil)))))))))))))))))))))))))) mixed (by kernel_rfl) hp (fun _ h => h) fun w hp => ?_
          have hpS := hp
          refine GO_rd (v := .int _ _) rfl (wn_none rfl) rfl hpS (fun w hp => (rd_move rfl rfl)) ?_
          refine GO_rd (v := .slice _ _ _) rfl (wn_none rfl) rfl hpS (fun w hp => (rd_move rfl rfl)) ?_
          refine GO_rd rfl (wn_none rfl) rfl hpS (fun w hp => (rd_len rfl rfl Try.underlying23)) ?_
          refine GO_rd rfl (wn_none rfl) rfl hpS (fun w hp => (rd_bin rfl rfl rfl bo_lss)) ?_
          refine GO_rd (v := .bool _) rfl (wn_none rfl) rfl hpS (fun w hp => (rd_move rfl rfl)) ?_
          refine GO_split (t := 58) (b := _) rfl ?_ ?_
          · intro hb4; (try simp only [decide_eq_true_eq, decide_eq_false_iff_not, Bool.not_eq_true', Bool.not_eq_false', Bool.not_eq_eq_eq_not, Bool.not_true, Bool.not_false, Int.not_lt, Int.not_le] at hb4)
            refine GO_rd (v := .int _ _) rfl (wn_on rfl rfl rfl rfl) rfl hpS (fun w hp => (rd_move rfl rfl)) ?_
            refine GO_rd rfl (wn_on rfl rfl rfl rfl) rfl hpS (fun w hp => (rd_indexA (j := i) rfl rfl rfl Try.underlying35 ts5 rfl (by omega) _ rfl)) ?_
            refine GO_rd rfl (wn_on rfl rfl rfl rfl) rfl hpS (fun w hp => (rd_load rfl rfl Try.underlying5 rfl ((cell_of_cells (hp.get 0 rfl) _).trans (whole_at l i (by omega))))) ?_
            refine GO_rd (v := .slice _ _ _) rfl (wn_on rfl rfl rfl rfl) rfl hpS (fun w hp => (rd_move rfl rfl)) ?_
            refine GO_rd (v := .int _ _) rfl (wn_on rfl rfl rfl rfl) rfl hpS (fun w hp => (rd_move rfl rfl)) ?_
            obtain ⟨gA, bA, rfl⟩ := hs.addr (by rw [bys_length]; omega)
            refine GO_rd rfl (wn_on rfl rfl rfl rfl) rfl hpS (fun w hp => (rd_indexS (j := i) rfl rfl rfl Try.underlying23 ts5 rfl (by omega) _ rfl)) ?_
            refine GO_rd rfl (wn_on rfl rfl rfl rfl) rfl hpS (fun w hp => (rd_load rfl rfl Try.underlying5 rfl (Sl.byte (hs.keep hp.mod) i (by omega)))) ?_
            refine GO_rd rfl (wn_on rfl rfl rfl rfl) rfl hpS (fun w hp => (rd_bin rfl rfl rfl bo_neq)) ?_
            refine GO_rd (v := .bool _) rfl (wn_none rfl) rfl hpS (fun w hp => (rd_pickT rfl rfl rfl)) ?_
            refine GO_rd (v := .bool _) rfl (wn_none rfl) rfl hpS (fun w hp => (rd_move rfl rfl)) ?_
            refine GO_split (t := 68) (b := _) rfl ?_ ?_
            · intro hb5; (try simp only [decide_eq_true_eq, decide_eq_false_iff_not, Bool.not_eq_true', Bool.not_eq_false', Bool.not_eq_eq_eq_not, Bool.not_true, Bool.not_false, Int.not_lt, Int.not_le] at hb5)
              exact absurd (by rw [whole_in l i (by omega) (by omega)]) hb5
            · intro hb5; (try simp only [decide_eq_true_eq, decide_eq_false_iff_not, Bool.not_eq_true', Bool.not_eq_false', Bool.not_eq_eq_eq_not, Bool.not_true, Bool.not_false, Int.not_lt, Int.not_le] at hb5)
              refine GO_rd (v := .int _ _) rfl (wn_on rfl rfl rfl rfl) rfl hpS (fun w hp => (rd_move rfl rfl)) ?_
              refine GO_rd (v := .slice _ _ _) rfl (wn_on rfl rfl rfl rfl) rfl hpS (fun w hp => (rd_move rfl rfl)) ?_
              refine GO_rd rfl (wn_on rfl rfl rfl rfl) rfl hpS (fun w hp => (rd_len rfl rfl Try.underlying23)) ?_
              refine GO_rd rfl (wn_on rfl rfl rfl rfl) rfl hpS (fun w hp => (rd_bin rfl rfl rfl bo_geq)) ?_
              refine GO_rd (v := .bool _) rfl (wn_on rfl rfl rfl rfl) rfl hpS (fun w hp => (rd_move rfl rfl)) ?_
              refine GO_split (t := 73) (b := _) rfl ?_ ?_
              · intro hb6; (try simp only [decide_eq_true_eq, decide_eq_false_iff_not, Bool.not_eq_true', Bool.not_eq_false', Bool.not_eq_eq_eq_not, Bool.not_true, Bool.not_false, Int.not_lt, Int.not_le] at hb6)
                omega
              · intro hb6; (try simp only [decide_eq_true_eq, decide_eq_false_iff_not, Bool.not_eq_true', Bool.not_eq_false', Bool.not_eq_eq_eq_not, Bool.not_true, Bool.not_false, Int.not_lt, Int.not_le] at hb6)
                refine GO_pass rfl (nw_off rfl rfl rfl rfl rfl) rfl hpS ?_
                refine GO_pass rfl (nw_off rfl rfl rfl rfl rfl) rfl hpS ?_
                refine GO_pass rfl (nw_off rfl rfl rfl rfl rfl) rfl hpS ?_
                refine GO_pass rfl (nw_off rfl rfl rfl rfl rfl) rfl hpS ?_
                refine GO_rd (v := .bool _) rfl (wn_on rfl rfl rfl rfl) rfl hpS (fun w hp => (rd_pickF rfl rfl rfl)) ?_
                refine GO_rd (v := .bool _) rfl (wn_none rfl) rfl hpS (fun w hp => (rd_pickF rfl rfl rfl)) ?_
                refine GO_nil ?_
                refine GW_false rfl ?_
                refine GW_skip ?_
                refine GW_region ?_
                refine GL_rd (v := .int _ _) (wn_none rfl) rfl (rd_move rfl rfl) ?_
                refine GL_rd (wn_none rfl) rfl (rd_bin rfl rfl rfl (bo_add64 (by omega))) ?_
                refine GL_rd (v := .int _ _) (wn_none rfl) rfl (rd_assign rfl rfl) ?_
                refine GL_nil ?_
                exact ihL0 (i + 1) _ _ (by simp only []; omega) ⟨_, slots11 rfl rfl rfl rfl rfl rfl rfl rfl rfl rfl rfl, hp, (by omega)⟩
          · intro hb4; (try simp only [decide_eq_true_eq, decide_eq_false_iff_not, Bool.not_eq_true', Bool.not_eq_false', Bool.not_eq_eq_eq_not, Bool.not_true, Bool.not_false, Int.not_lt, Int.not_le] at hb4)
            refine GO_pass rfl (nw_off rfl rfl rfl rfl rfl) rfl hpS ?_
            refine GO_pass rfl (nw_off rfl rfl rfl rfl rfl) rfl hpS ?_
            refine GO_pass rfl (nw_off rfl rfl rfl rfl rfl) rfl hpS ?_
            refine GO_pass rfl (nw_off rfl rfl rfl rfl rfl) rfl hpS ?_
            refine GO_pass rfl (nw_off rfl rfl rfl rfl rfl) rfl hpS ?_
            refine GO_pass rfl (nw_off rfl rfl rfl rfl rfl) rfl hpS ?_
            refine GO_pass rfl (nw_off rfl rfl rfl rfl rfl) rfl hpS ?_
            refine GO_pass rfl (nw_off rfl rfl rfl rfl rfl) rfl hpS ?_
            refine GO_rd (v := .bool _) rfl (wn_none rfl) rfl hpS (fun w hp => (rd_pickF rfl rfl rfl)) ?_
            refine GO_rd (v := .bool _) rfl (wn_none rfl) rfl hpS (fun w hp => (rd_move rfl rfl)) ?_
            refine GO_rd (v := .int _ _) rfl (wn_on rfl rfl rfl rfl) rfl hpS (fun w hp => (rd_move rfl rfl)) ?_
            refine GO_rd (v := .slice _ _ _) rfl (wn_on rfl rfl rfl rfl) rfl hpS (fun w hp => (rd_move rfl rfl)) ?_
            refine GO_rd rfl (wn_on rfl rfl rfl rfl) rfl hpS (fun w hp => (rd_len rfl rfl Try.underlying23)) ?_
            refine GO_rd rfl (wn_on rfl rfl rfl rfl) rfl hpS (fun w hp => (rd_bin rfl rfl rfl bo_geq)) ?_
            refine GO_rd (v := .bool _) rfl (wn_on rfl rfl rfl rfl) rfl hpS (fun w hp => (rd_move rfl rfl)) ?_
            refine GO_split (t := 73) (b := _) rfl ?_ ?_
            · intro hb7; (try simp only [decide_eq_true_eq, decide_eq_false_iff_not, Bool.not_eq_true', Bool.not_eq_false', Bool.not_eq_eq_eq_not, Bool.not_true, Bool.not_false, Int.not_lt, Int.not_le] at hb7)
              refine GO_rd (v := .int _ _) rfl (wn_on rfl rfl rfl rfl) rfl hpS (fun w hp => (rd_move rfl rfl)) ?_
              refine GO_rd rfl (wn_on rfl rfl rfl rfl) rfl hpS (fun w hp => (rd_indexA (j := i) rfl rfl rfl Try.underlying35 ts5 rfl (by omega) _ rfl)) ?_
              refine GO_rd rfl (wn_on rfl rfl rfl rfl) rfl hpS (fun w hp => (rd_load rfl rfl Try.underlying5 rfl ((cell_of_cells (hp.get 0 rfl) _).trans (whole_at l i (by omega))))) ?_
              refine GO_rd rfl (wn_on rfl rfl rfl rfl) rfl hpS (fun w hp => (rd_bin rfl rfl rfl bo_neq)) ?_
              refine GO_rd (v := .bool _) rfl (wn_on rfl rfl rfl rfl) rfl hpS (fun w hp => (rd_pickT rfl rfl rfl)) ?_
              refine GO_rd (v := .bool _) rfl (wn_none rfl) rfl hpS (fun w hp => (rd_pickF rfl rfl rfl)) ?_
              refine GO_nil ?_
              refine GW_cond rfl (fun hb8 => ?_) (fun hb8 => ?_)
              · (try simp only [decide_eq_true_eq, decide_eq_false_iff_not, Bool.not_eq_true', Bool.not_eq_false', Bool.not_eq_eq_eq_not, Bool.not_true, Bool.not_false, Int.not_lt, Int.not_le] at hb8)
                exact absurd (by rw [whole_out (by omega) (by omega)]; rfl) hb8
              · (try simp only [decide_eq_true_eq, decide_eq_false_iff_not, Bool.not_eq_true', Bool.not_eq_false', Bool.not_eq_eq_eq_not, Bool.not_true, Bool.not_false, Int.not_lt, Int.not_le] at hb8)
                refine GW_skip ?_
                refine GW_region ?_
                refine GL_rd (v := .int _ _) (wn_none rfl) rfl (rd_move rfl rfl) ?_
                refine GL_rd (wn_none rfl) rfl (rd_bin rfl rfl rfl (bo_add64 (by omega))) ?_
                refine GL_rd (v := .int _ _) (wn_none rfl) rfl (rd_assign rfl rfl) ?_
                refine GL_nil ?_
                exact ihL0 (i + 1) _ _ (by simp only []; omega) ⟨_, slots11 rfl rfl rfl rfl rfl rfl rfl rfl rfl rfl rfl, hp, (by omega)⟩
            · intro hb7; (try simp only [decide_eq_true_eq, decide_eq_false_iff_not, Bool.not_eq_true', Bool.not_eq_false', Bool.not_eq_eq_eq_not, Bool.not_true, Bool.not_false, Int.not_lt, Int.not_le] at hb7)
              omega
        · (try simp only [decide_eq_true_eq, decide_eq_false_iff_not, Bool.not_eq_true', Bool.not_eq_false', Bool.not_eq_eq_eq_not, Bool.not_true, Bool.not_false, Int.not_lt, Int.not_le] at hb3)
          refine GW_exit ?_
          refine GW_seq ?_
          refine GW_region ?_
          refine GL_rd (v := x) (wn_none rfl) rfl (rd_move rfl rfl) ?_
          refine GL_rd (v := x2) (wn_none rfl) rfl (rd_move rfl rfl) ?_
          refine GL_call (wn_none rfl) rfl rfl (ref_Same _ _ _ _ _ _ _ (Sl.row (hp.get 2 rfl)) (Sl.row (hp.get 1 rfl))) rfl ?_
          rintro _ w ⟨rfl, hk⟩
          have hp := hp.comp hk
          refine GL_rd (v := .bool _) (wn_none rfl) rfl (rd_move rfl rfl) ?_
          refine GL_split (t := 83) (b := _) rfl ?_ ?_
          · intro hb9; (try simp only [decide_eq_true_eq, decide_eq_false_iff_not, Bool.not_eq_true', Bool.not_eq_false', Bool.not_eq_eq_eq_not, Bool.not_true, Bool.not_false, Int.not_lt, Int.not_le] at hb9)
            refine GL_rd (v := .int _ _) (wn_on rfl rfl rfl rfl) rfl (rd_move rfl rfl) ?_
            refine GL_rd (v := .int _ _) (wn_on rfl rfl rfl rfl) rfl (rd_move rfl rfl) ?_
            refine GL_rd (wn_on rfl rfl rfl rfl) rfl (rd_bin rfl rfl rfl bo_eql) ?_
            refine GL_rd (v := .bool _) (wn_none rfl) rfl (rd_pickT rfl rfl rfl) ?_
            refine GL_rd (v := .bool _) (wn_none rfl) rfl (rd_move rfl rfl) ?_
            refine GL_split (t := 88) (b := _) rfl ?_ ?_
            · intro hb10; (try simp only [decide_eq_true_eq, decide_eq_false_iff_not, Bool.not_eq_true', Bool.not_eq_false', Bool.not_eq_eq_eq_not, Bool.not_true, Bool.not_false, Int.not_lt, Int.not_le] at hb10)
              refine GL_rd (v := .string _) (wn_on rfl rfl rfl rfl) rfl (rd_move rfl rfl) ?_
              refine GL_rd (v := .string _) (wn_on rfl rfl rfl rfl) rfl (rd_move rfl rfl) ?_
              refine GL_rd (wn_on rfl rfl rfl rfl) rfl (rd_bin rfl rfl rfl bo_seql) ?_
              refine GL_rd (v := .bool _) (wn_none rfl) rfl (rd_pickT rfl rfl rfl) ?_
              refine GL_rd (v := .bool _) (wn_none rfl) rfl (rd_move rfl rfl) ?_
              refine GL_split (t := 93) (b := _) rfl ?_ ?_
              · intro hb11; (try simp only [decide_eq_true_eq, decide_eq_false_iff_not, Bool.not_eq_true', Bool.not_eq_false', Bool.not_eq_eq_eq_not, Bool.not_true, Bool.not_false, Int.not_lt, Int.not_le] at hb11)
                refine GL_rd (v := .int _ _) (wn_on rfl rfl rfl rfl) rfl (rd_move rfl rfl) ?_
                refine GL_rd (v := .int _ _) (wn_on rfl rfl rfl rfl) rfl (rd_move rfl rfl) ?_
                refine GL_rd (wn_on rfl rfl rfl rfl) rfl (rd_bin rfl rfl rfl bo_eql) ?_
                refine GL_rd (v := .bool _) (wn_none rfl) rfl (rd_pickT rfl rfl rfl) ?_
                refine GL_rd (v := .bool _) (wn_none rfl) rfl (rd_move rfl rfl) ?_
                refine GL_split (t := 98) (b := _) rfl ?_ ?_
                · intro hb12; (try simp only [decide_eq_true_eq, decide_eq_false_iff_not, Bool.not_eq_true', Bool.not_eq_false', Bool.not_eq_eq_eq_not, Bool.not_true, Bool.not_false, Int.not_lt, Int.not_le] at hb12)
                  refine GL_rd (v := .slice _ _ _) (wn_on rfl rfl rfl rfl) rfl (rd_move rfl rfl) ?_
                  refine GL_call (wn_on rfl rfl rfl rfl) rfl rfl (word_Zero _ _ _ _ (hs.keep hp.mod)) rfl ?_
                  rintro _ w ⟨rfl, hk⟩
                  have hp := hp.comp hk
                  refine GL_rd (v := .slice _ _ _) (wn_on rfl rfl rfl rfl) rfl (rd_move rfl rfl) ?_
                  refine GL_call (wn_on rfl rfl rfl rfl) rfl rfl (ref_Zero _ _ _ _ (hs.keep hp.mod)) rfl ?_
                  rintro _ w ⟨rfl, hk⟩
                  have hp := hp.comp hk
                  refine GL_rd (wn_on rfl rfl rfl rfl) rfl (rd_bin rfl rfl rfl (bo_beql Try.underlying4)) ?_
                  refine GL_rd (v := .bool _) (wn_none rfl) rfl (rd_pickT rfl rfl rfl) ?_
                  refine GL_rd (v := .bool _) (wn_none rfl) rfl (rd_move rfl rfl) ?_
                  refine GL_split (t := 105) (b := _) rfl ?_ ?_
                  · intro hb13; (try simp only [decide_eq_true_eq, decide_eq_false_iff_not, Bool.not_eq_true', Bool.not_eq_false', Bool.not_eq_eq_eq_not, Bool.not_true, Bool.not_false, Int.not_lt, Int.not_le] at hb13)
                    refine GL_call (wn_on rfl rfl rfl rfl) rfl rfl (word_works _) rfl ?_
                    rintro _ w ⟨rfl, hk⟩
                    have hp := hp.comp hk
                    refine GL_rd (v := .bool _) (wn_none rfl) rfl (rd_pickT rfl rfl rfl) ?_
                    refine GL_rd (v := .bool _) (wn_none rfl) rfl (rd_assign rfl rfl) ?_
                    refine GL_nil ?_
                    refine GW_ret ?_
                    exact ⟨_, res1 Try.results4 (rv_tmp (v := .bool _) rfl rfl), rfl, hp.mods⟩
                  · intro hb13; (try simp only [decide_eq_true_eq, decide_eq_false_iff_not, Bool.not_eq_true', Bool.not_eq_false', Bool.not_eq_eq_eq_not, Bool.not_true, Bool.not_false, Int.not_lt, Int.not_le] at hb13)
                    all_goals first | exact absurd rfl hb13 | exact absurd hb13 (by decide) | exact absurd hb13 (by simp)
                · intro hb12; (try simp only [decide_eq_true_eq, decide_eq_false_iff_not, Bool.not_eq_true', Bool.not_eq_false', Bool.not_eq_eq_eq_not, Bool.not_true, Bool.not_false, Int.not_lt, Int.not_le] at hb12)
                  all_goals first | exact absurd rfl hb12 | exact absurd hb12 (by decide) | exact absurd hb12 (by simp)
              · intro hb11; (try simp only [decide_eq_true_eq, decide_eq_false_iff_not, Bool.not_eq_true', Bool.not_eq_false', Bool.not_eq_eq_eq_not, Bool.not_true, Bool.not_false, Int.not_lt, Int.not_le] at hb11)
                all_goals first | exact absurd rfl hb11 | exact absurd hb11 (by decide) | exact absurd hb11 (by simp)
            · intro hb10; (try simp only [decide_eq_true_eq, decide_eq_false_iff_not, Bool.not_eq_true', Bool.not_eq_false', Bool.not_eq_eq_eq_not, Bool.not_true, Bool.not_false, Int.not_lt, Int.not_le] at hb10)
              all_goals first | exact absurd rfl hb10 | exact absurd hb10 (by decide) | exact absurd hb10 (by simp)
          · intro hb9; (try simp only [decide_eq_true_eq, decide_eq_false_iff_not, Bool.not_eq_true', Bool.not_eq_false', Bool.not_eq_eq_eq_not, Bool.not_true, Bool.not_false, Int.not_lt, Int.not_le] at hb9)
            all_goals first | exact absurd rfl hb9 | exact absurd hb9 (by decide) | exact absurd hb9 (by simp)
      · refine ⟨_, slots11 rfl rfl rfl rfl rfl rfl rfl rfl rfl rfl rfl, hp, Nat.zero_le _⟩

theorem law_Stops (sv tv : Value) (m m2 : Nat) (l l2 : List UInt8) (far : Int) (w0 : World) (hs : Sl w0 sv 1 m (bys l)) (ht : Sl w0 tv 1 m2 (bys l2)) : Does Try.prog 6 #[sv, tv, .int .i64 far] w0 fun v w' => v = .bool true ∧ Hp w0 [] w' [] := by
  obtain ⟨A, c, rfl⟩ := sl_shape hs
  have hml := hs.blen
  have hmle := hs.le
  obtain ⟨A2, c2, rfl⟩ := sl_shape ht
  have hml2 := ht.blen
  have hsb : Sl w0 (.slice A m c) 1 l.length (bys l) := by rw [hml]; exact hs
  refine does_of (l := [.slice A m c, .slice A2 m2 c2, .int .i64 far]) Try.func6 (by kernel_rfl) rfl Try.ntmps6 rfl rfl ?_
  have hp := Hp.refl w0 []
  refine GW_seq ?_
  refine GW_region ?_
  refine GL_rd (v := .bool _) (wn_none rfl) rfl (rd_assign rfl rfl) ?_
  refine GL_nil ?_
  refine GW_seq ?_
  refine GW_seq ?_
  refine GW_region ?_
  refine GL_rd (v := .slice _ _ _) (wn_none rfl) rfl (rd_move rfl rfl) ?_
  refine GL_call (wn_none rfl) rfl rfl (word_Few _ _ _ _) rfl ?_
  rintro _ w ⟨rfl, hk⟩
  have hp := hp.comp hk
  refine GL_rd (wn_none rfl) rfl (rd_bin rfl rfl rfl bo_gtr) ?_
  refine GL_rd (v := .bool _) (wn_none rfl) rfl (rd_move rfl rfl) ?_
  refine GL_split (t := 13) (b := _) rfl ?_ ?_
  · intro hb; (try simp only [decide_eq_true_eq, decide_eq_false_iff_not, Bool.not_eq_true', Bool.not_eq_false', Bool.not_eq_eq_eq_not, Bool.not_true, Bool.not_false, Int.not_lt, Int.not_le] at hb)
    refine GL_pass (nw_off rfl rfl rfl rfl rfl) rfl ?_
    refine GL_pass (nw_off rfl rfl rfl rfl rfl) rfl ?_
    refine GL_pass (nw_off rfl rfl rfl rfl rfl) rfl ?_
    refine GL_rd (v := .bool _) (wn_none rfl) rfl (rd_pickT rfl rfl rfl) ?_
    refine GL_rd (v := .bool _) (wn_none rfl) rfl (rd_move rfl rfl) ?_
    refine GL_pass (nw_off rfl rfl rfl rfl rfl) rfl ?_
    refine GL_pass (nw_off rfl rfl rfl rfl rfl) rfl ?_
    refine GL_pass (nw_off rfl rfl rfl rfl rfl) rfl ?_
    refine GL_pass (nw_undef rfl rfl rfl rfl) rfl ?_
    refine GL_pass (nw_undef rfl rfl rfl rfl) rfl ?_
    refine GL_pass (nw_undef rfl rfl rfl rfl) rfl ?_
    refine GL_pass (nw_undef rfl rfl rfl rfl) rfl ?_
    refine GL_pass (nw_off rfl rfl rfl rfl rfl) rfl ?_
    refine GL_rd (v := .bool _) (wn_none rfl) rfl (rd_pickT rfl rfl rfl) ?_
    refine GL_nil ?_
    refine GW_true rfl ?_
    refine GW_seq ?_
    refine GW_region ?_
    refine GL_call (wn_none rfl) rfl rfl (word_works _) rfl ?_
    rintro _ w ⟨rfl, hk⟩
    have hp := hp.comp hk
    refine GL_rd (v := .bool _) (wn_none rfl) rfl (rd_assign rfl rfl) ?_
    refine GL_nil ?_
    refine GW_ret ?_
    exact ⟨_, res1 Try.results6 (rv_tmp (v := .bool _) rfl rfl), rfl, hp.mods⟩
  · intro hb; (try simp only [decide_eq_true_eq, decide_eq_false_iff_not, Bool.not_eq_true', Bool.not_eq_false', Bool.not_eq_eq_eq_not, Bool.not_true, Bool.not_false, Int.not_lt, Int.not_le] at hb)
    have hm3 : m ≤ 3000 := by simp only [fewI] at hb; split at hb <;> omega
    refine GL_rd (v := .slice _ _ _) (wn_on rfl rfl rfl rfl) rfl (rd_move rfl rfl) ?_
    refine GL_rd (wn_on rfl rfl rfl rfl) rfl (rd_len rfl rfl Try.underlying23) ?_
    refine GL_rd (wn_on rfl rfl rfl rfl) rfl (rd_bin rfl rfl rfl bo_gtr) ?_
    refine GL_rd (v := .bool _) (wn_none rfl) rfl (rd_pickF rfl rfl rfl) ?_
    refine GL_rd (v := .bool _) (wn_none rfl) rfl (rd_move rfl rfl) ?_
    refine GL_split (t := 18) (b := _) rfl ?_ ?_
    · intro hb2; (try simp only [decide_eq_true_eq, decide_eq_false_iff_not, Bool.not_eq_true', Bool.not_eq_false', Bool.not_eq_eq_eq_not, Bool.not_true, Bool.not_false, Int.not_lt, Int.not_le] at hb2)
      refine GL_pass (nw_off rfl rfl rfl rfl rfl) rfl ?_
      refine GL_pass (nw_off rfl rfl rfl rfl rfl) rfl ?_
      refine GL_pass (nw_off rfl rfl rfl rfl rfl) rfl ?_
      refine GL_pass (nw_undef rfl rfl rfl rfl) rfl ?_
      refine GL_pass (nw_undef rfl rfl rfl rfl) rfl ?_
      refine GL_pass (nw_undef rfl rfl rfl rfl) rfl ?_
      refine GL_pass (nw_undef rfl rfl rfl rfl) rfl ?_
      refine GL_pass (nw_off rfl rfl rfl rfl rfl) rfl ?_
      refine GL_rd (v := .bool _) (wn_none rfl) rfl (rd_pickT rfl rfl rfl) ?_
      refine GL_nil ?_
      refine GW_true rfl ?_
      refine GW_seq ?_
      refine GW_region ?_
      refine GL_call (wn_none rfl) rfl rfl (word_works _) rfl ?_
      rintro _ w ⟨rfl, hk⟩
      have hp := hp.comp hk
      refine GL_rd (v := .bool _) (wn_none rfl) rfl (rd_assign rfl rfl) ?_
      refine GL_nil ?_
      refine GW_ret ?_
      exact ⟨_, res1 Try.results6 (rv_tmp (v := .bool _) rfl rfl), rfl, hp.mods⟩
    · intro hb2; (try simp only [decide_eq_true_eq, decide_eq_false_iff_not, Bool.not_eq_true', Bool.not_eq_false', Bool.not_eq_eq_eq_not, Bool.not_true, Bool.not_false, Int.not_lt, Int.not_le] at hb2)
      refine GL_rd (v := .int _ _) (wn_on rfl rfl rfl rfl) rfl (rd_move rfl rfl) ?_
      refine GL_rd (wn_on rfl rfl rfl rfl) rfl (rd_bin rfl rfl rfl bo_geq) ?_
      refine GL_rd (v := .bool _) (wn_on rfl rfl rfl rfl) rfl (rd_move rfl rfl) ?_
      refine GL_split (t := 21) (b := _) rfl ?_ ?_
      · intro hb3; (try simp only [decide_eq_true_eq, decide_eq_false_iff_not, Bool.not_eq_true', Bool.not_eq_false', Bool.not_eq_eq_eq_not, Bool.not_true, Bool.not_false, Int.not_lt, Int.not_le] at hb3)
        refine GL_rd (v := .int _ _) (wn_on rfl rfl rfl rfl) rfl (rd_move rfl rfl) ?_
        refine GL_rd (v := .slice _ _ _) (wn_on rfl rfl rfl rfl) rfl (rd_move rfl rfl) ?_
        refine GL_rd (wn_on rfl rfl rfl rfl) rfl (rd_len rfl rfl Try.underlying23) ?_
        refine GL_rd (wn_on rfl rfl rfl rfl) rfl (rd_bin rfl rfl rfl bo_leq) ?_
        refine GL_rd (v := .bool _) (wn_on rfl rfl rfl rfl) rfl (rd_pickT rfl rfl rfl) ?_
        refine GL_rd (v := .bool _) (wn_none rfl) rfl (rd_pickF rfl rfl rfl) ?_
        refine GL_nil ?_
        refine GW_cond rfl (fun hb4 => ?_) (fun hb4 => ?_)
        · (try simp only [decide_eq_true_eq, decide_eq_false_iff_not, Bool.not_eq_true', Bool.not_eq_false', Bool.not_eq_eq_eq_not, Bool.not_true, Bool.not_false, Int.not_lt, Int.not_le] at hb4)
          refine GW_seq ?_
          refine GW_region ?_
          refine GL_call (wn_none rfl) rfl rfl (word_works _) rfl ?_
          rintro _ w ⟨rfl, hk⟩
          have hp := hp.comp hk
          refine GL_rd (v := .bool _) (wn_none rfl) rfl (rd_assign rfl rfl) ?_
          refine GL_nil ?_
          refine GW_ret ?_
          exact ⟨_, res1 Try.results6 (rv_tmp (v := .bool _) rfl rfl), rfl, hp.mods⟩
        · (try simp only [decide_eq_true_eq, decide_eq_false_iff_not, Bool.not_eq_true', Bool.not_eq_false', Bool.not_eq_eq_eq_not, Bool.not_true, Bool.not_false, Int.not_lt, Int.not_le] at hb4)
          have hno : curOk false l far = false := by simp only [curOk, Bool.not_false, Bool.true_and, decide_eq_false_iff_not]; omega
          refine GW_skip ?_
          refine GW_seq ?_
          refine GW_region ?_
          refine GL_rd (v := .slice _ _ _) (wn_none rfl) rfl (rd_move rfl rfl) ?_
          refine GL_call (wn_none rfl) rfl rfl (word_From _ _ _ _) rfl ?_
          rintro _ w ⟨p, rfl, hk⟩
          have hp := hp.comp hk
          refine GL_rd (v := .pointer (some ⟨_, _, none⟩)) (wn_none rfl) rfl (rd_assign rfl rfl) ?_
          refine GL_nil ?_
          refine GW_seq ?_
          refine GW_seq ?_
          refine GW_region ?_
          refine GL_rd (v := .pointer (some ⟨_, _, none⟩)) (wn_none rfl) rfl (rd_move rfl rfl) ?_
          refine GL_rd (wn_none rfl) rfl (rd_bin rfl rfl rfl (bo_pnil Try.underlying42)) ?_
          refine GL_nil ?_
          refine GW_false rfl ?_
          refine GW_skip ?_
          refine GW_seq ?_
          refine GW_seq ?_
          refine GW_region ?_
          refine GL_rd (v := .pointer (some ⟨_, _, none⟩)) (wn_none rfl) rfl (rd_move rfl rfl) ?_
          refine GL_rd (v := .int _ _) (wn_none rfl) rfl (rd_move rfl rfl) ?_
          refine GL_call (wn_none rfl) rfl rfl (cur_Bytes p _ (l) (false) _ _ (hp.get 0 rfl) (fun w' h => (hsb.keep (hp.modAt 0 rfl h))) (by omega)) rfl ?_
          rintro v w ⟨bv, hsuf, hk⟩
          have hp := hp.turnAtMore 0 rfl hk
          obtain ⟨Av, cv, rfl⟩ := row_shape (hp.get 0 rfl)
          rw [(cur_no hno).2] at hsuf
          rw [hno, Bool.not_false] at hp
          refine GL_call (wn_none rfl) rfl rfl (ref_Zero _ _ _ _ (Sl.row (hp.get 0 rfl))) rfl ?_
          rintro _ w ⟨rfl, hk⟩
          have hp := hp.comp hk
          refine GL_rd (wn_none rfl) rfl (rd_not rfl rfl) ?_
          refine GL_rd (v := .bool _) (wn_none rfl) rfl (rd_move rfl rfl) ?_
          refine GL_split (t := 38) (b := _) rfl ?_ ?_
          · intro hb5; (try simp only [decide_eq_true_eq, decide_eq_false_iff_not, Bool.not_eq_true', Bool.not_eq_false', Bool.not_eq_eq_eq_not, Bool.not_true, Bool.not_false, Int.not_lt, Int.not_le] at hb5)
            exact absurd hb5 (by rw [(cur_no hno).1, zeroL_replicate]; decide)
          · intro hb5; (try simp only [decide_eq_true_eq, decide_eq_false_iff_not, Bool.not_eq_true', Bool.not_eq_false', Bool.not_eq_eq_eq_not, Bool.not_true, Bool.not_false, Int.not_lt, Int.not_le] at hb5)
            refine GL_rd (v := .pointer (some ⟨_, _, none⟩)) (wn_on rfl rfl rfl rfl) rfl (rd_move rfl rfl) ?_
            refine GL_call (wn_on rfl rfl rfl rfl) rfl rfl (cur_Right p _ (l) (true) _ (hp.get 1 rfl) (fun w' h => (hsuf w' (hsb.keep (hp.modAt 1 rfl h))))) rfl ?_
            rintro _ w ⟨rfl, hk⟩
            have hp := hp.comp hk
            refine GL_rd (v := .bool _) (wn_none rfl) rfl (rd_pickF rfl rfl rfl) ?_
            refine GL_nil ?_
            refine GW_cond rfl (fun hb6 => ?_) (fun hb6 => ?_)
            · (try simp only [decide_eq_true_eq, decide_eq_false_iff_not, Bool.not_eq_true', Bool.not_eq_false', Bool.not_eq_eq_eq_not, Bool.not_true, Bool.not_false, Int.not_lt, Int.not_le] at hb6)
              all_goals exact absurd hb6 (by decide)
            · (try simp only [decide_eq_true_eq, decide_eq_false_iff_not, Bool.not_eq_true', Bool.not_eq_false', Bool.not_eq_eq_eq_not, Bool.not_true, Bool.not_false, Int.not_lt, Int.not_le] at hb6)
              refine GW_skip ?_
              refine GW_seq ?_
              refine GW_seq ?_
              refine GW_region ?_
              refine GL_rd (v := .int _ _) (wn_none rfl) rfl (rd_assign rfl rfl) ?_
              refine GL_nil ?_
              refine GW_block ?_
              refine GW_loop ?_
              refine Lp_ind (α := Nat × Value) (fun a f w' => match a with | (i, bv) => ∃ fz, f = (upd (upd (upd fz 1 (.slice A2 m2 c2)) 7 (.pointer (some ⟨p, 0, none⟩))) 8 (.int .i64 (i : Int))) ∧ Hp w0 [] w' [cells p 126 [bv, .bool true]] ∧ (i ≤ m2) ∧ (Suf (.slice A m c) l bv l)) (fun a => match a with | (i, bv) => m2 - i) ?_ (0, bv) _ _ ?_
              · rintro ⟨i, bv⟩ f wz ⟨fz, rfl, hp, hi0, hsufL⟩ ihL0
                refine Lp_round ?_
                refine GW_seq ?_
                refine GW_seq ?_
                refine GW_region ?_
                refine GL_rd (v := .int _ _) (wn_none rfl) rfl (rd_move rfl rfl) ?_
                refine GL_rd (v := .slice _ _ _) (wn_none rfl) rfl (rd_move rfl rfl) ?_
                refine GL_rd (wn_none rfl) rfl (rd_len rfl rfl Try.underlying23) ?_
                refine GL_rd (wn_none rfl) rfl (rd_bin rfl rfl rfl bo_lss) ?_
                refine GL_nil ?_
                refine GW_cond rfl (fun hb7 => ?_) (fun hb7 => ?_)
                · (try simp only [decide_eq_true_eq, decide_eq_false_iff_not, Bool.not_eq_true', Bool.not_eq_false', Bool.not_eq_eq_eq_not, Bool.not_true, Bool.not_false, Int.not_lt, Int.not_le] at hb7)
                  refine GW_skip ?_
                  refine GW_seq ?_
                  refine GW_block ?_
                  refine GW_seq ?_
                  refine GW_region ?_
                  refine GL_rd (v := .slice _ _ _) (wn_none rfl) rfl (rd_move rfl rfl) ?_
                  refine GL_rd (v := .int _ _) (wn_none rfl) rfl (rd_move rfl rfl) ?_
                  obtain ⟨gA, bA, rfl⟩ := ht.addr (by rw [bys_length]; omega)
                  refine GL_rd (wn_none rfl) rfl (rd_indexS (j := i) rfl rfl rfl Try.underlying23 ts5 rfl (by omega) _ rfl) ?_
                  refine GL_rd (wn_none rfl) rfl (rd_load rfl rfl Try.underlying5 rfl (Sl.byte (ht.keep hp.mod) i (by omega))) ?_
                  refine GL_rd (wn_none rfl) rfl (rd_conv8 .i64 rfl rfl Try.underlying3 Try.underlying5 (by simp)) ?_
                  refine GL_rd (wn_none rfl) rfl (rd_bin rfl rfl rfl (bo_rem64 (by omega) (by omega))) ?_
                  refine GL_rd (v := .int _ _) (wn_none rfl) rfl (rd_assign rfl rfl) ?_
                  refine GL_nil ?_
                  refine GW_seq ?_
                  refine GW_region ?_
                  refine GL_rd (v := .pointer (some ⟨_, _, none⟩)) (wn_none rfl) rfl (rd_move rfl rfl) ?_
                  refine GL_rd (v := .int _ _) (wn_none rfl) rfl (rd_move rfl rfl) ?_
                  refine GL_call (wn_none rfl) rfl rfl (cur_Num p _ (l) (true) _ _ (hp.get 0 rfl) (fun w' h => (hsufL w' (hsb.keep (hp.modAt 0 rfl h)))) (by omega)) rfl ?_
                  rintro _ w ⟨bv2, hsuf2, rfl, hk⟩
                  have hp := hp.turnAtMore 0 rfl hk
                  simp only [curL_true, curOk_true, curTextBad_true, Bool.not_false] at hp hsuf2
                  refine GL_rd (wn_none rfl) rfl (rd_bin rfl rfl rfl bo_neq) ?_
                  refine GL_rd (v := .bool _) (wn_none rfl) rfl (rd_move rfl rfl) ?_
                  refine GL_split (t := 58) (b := _) rfl ?_ ?_
                  · intro hb8; (try simp only [decide_eq_true_eq, decide_eq_false_iff_not, Bool.not_eq_true', Bool.not_eq_false', Bool.not_eq_eq_eq_not, Bool.not_true, Bool.not_false, Int.not_lt, Int.not_le] at hb8)
                    all_goals exact absurd hb8 (by simp [curNum_true, curText_true, zero_true])
                  · intro hb8; (try simp only [decide_eq_true_eq, decide_eq_false_iff_not, Bool.not_eq_true', Bool.not_eq_false', Bool.not_eq_eq_eq_not, Bool.not_true, Bool.not_false, Int.not_lt, Int.not_le] at hb8)
                    refine GL_rd (v := .pointer (some ⟨_, _, none⟩)) (wn_on rfl rfl rfl rfl) rfl (rd_move rfl rfl) ?_
                    refine GL_rd (v := .int _ _) (wn_on rfl rfl rfl rfl) rfl (rd_move rfl rfl) ?_
                    refine GL_rd (wn_on rfl rfl rfl rfl) rfl (rd_bin rfl rfl rfl (bo_add64 (by omega))) ?_
                    refine GL_call (wn_on rfl rfl rfl rfl) rfl rfl (cur_Text p _ (l) (true) _ _ (hp.get 0 rfl) (fun w' h => (hsuf2 w' (hsufL w' (hsb.keep (hp.modAt 0 rfl h))))) (by omega)) rfl ?_
                    rintro _ w ⟨bv3, hsuf3, rfl, hk⟩
                    have hp := hp.turnAtMore 0 rfl hk
                    simp only [curL_true, curOk_true, curTextBad_true, Bool.not_false] at hp hsuf3
                    refine GL_rd (wn_on rfl rfl rfl rfl) rfl (rd_bin rfl rfl rfl bo_sneq) ?_
                    refine GL_rd (v := .bool _) (wn_none rfl) rfl (rd_pickF rfl rfl rfl) ?_
                    refine GL_rd (v := .bool _) (wn_none rfl) rfl (rd_move rfl rfl) ?_
                    refine GL_split (t := 65) (b := _) rfl ?_ ?_
                    · intro hb9; (try simp only [decide_eq_true_eq, decide_eq_false_iff_not, Bool.not_eq_true', Bool.not_eq_false', Bool.not_eq_eq_eq_not, Bool.not_true, Bool.not_false, Int.not_lt, Int.not_le] at hb9)
                      all_goals exact absurd hb9 (by simp [curNum_true, curText_true, zero_true])
                    · intro hb9; (try simp only [decide_eq_true_eq, decide_eq_false_iff_not, Bool.not_eq_true', Bool.not_eq_false', Bool.not_eq_eq_eq_not, Bool.not_true, Bool.not_false, Int.not_lt, Int.not_le] at hb9)
                      refine GL_rd (v := .pointer (some ⟨_, _, none⟩)) (wn_on rfl rfl rfl rfl) rfl (rd_move rfl rfl) ?_
                      refine GL_rd (v := .int _ _) (wn_on rfl rfl rfl rfl) rfl (rd_move rfl rfl) ?_
                      refine GL_call (wn_on rfl rfl rfl rfl) rfl rfl (cur_Bytes p _ (l) (true) _ _ (hp.get 0 rfl) (fun w' h => (hsuf3 w' (hsuf2 w' (hsufL w' (hsb.keep (hp.modAt 0 rfl h)))))) (by omega)) rfl ?_
                      rintro v4 w ⟨bv4, hsuf4, hk⟩
                      have hp := hp.turnAtMore 0 rfl hk
                      obtain ⟨Av4, cv4, rfl⟩ := row_shape (hp.get 0 rfl)
                      simp only [curL_true, curOk_true, curTextBad_true, Bool.not_false] at hp hsuf4
                      refine GL_call (wn_on rfl rfl rfl rfl) rfl rfl (ref_Zero _ _ _ _ (Sl.row (hp.get 0 rfl))) rfl ?_
                      rintro _ w ⟨rfl, hk⟩
                      have hp := hp.comp hk
                      refine GL_rd (wn_on rfl rfl rfl rfl) rfl (rd_not rfl rfl) ?_
                      refine GL_rd (v := .bool _) (wn_none rfl) rfl (rd_pickF rfl rfl rfl) ?_
                      refine GL_rd (v := .bool _) (wn_none rfl) rfl (rd_move rfl rfl) ?_
                      refine GL_split (t := 72) (b := _) rfl ?_ ?_
                      · intro hb10; (try simp only [decide_eq_true_eq, decide_eq_false_iff_not, Bool.not_eq_true', Bool.not_eq_false', Bool.not_eq_eq_eq_not, Bool.not_true, Bool.not_false, Int.not_lt, Int.not_le] at hb10)
                        all_goals exact absurd hb10 (by simp [curNum_true, curText_true, zero_true])
                      · intro hb10; (try simp only [decide_eq_true_eq, decide_eq_false_iff_not, Bool.not_eq_true', Bool.not_eq_false', Bool.not_eq_eq_eq_not, Bool.not_true, Bool.not_false, Int.not_lt, Int.not_le] at hb10)
                        refine GL_rd (v := .pointer (some ⟨_, _, none⟩)) (wn_on rfl rfl rfl rfl) rfl (rd_move rfl rfl) ?_
                        refine GL_call (wn_on rfl rfl rfl rfl) rfl rfl (cur_Right p _ (l) (true) _ (hp.get 1 rfl) (fun w' h => (hsuf4 w' (hsuf3 w' (hsuf2 w' (hsufL w' (hsb.keep (hp.modAt 1 rfl h)))))))) rfl ?_
                        rintro _ w ⟨rfl, hk⟩
                        have hp := hp.comp hk
                        refine GL_rd (v := .bool _) (wn_none rfl) rfl (rd_pickF rfl rfl rfl) ?_
                        refine GL_rd (v := .bool _) (wn_none rfl) rfl (rd_move rfl rfl) ?_
                        refine GL_split (t := 76) (b := _) rfl ?_ ?_
                        · intro hb11; (try simp only [decide_eq_true_eq, decide_eq_false_iff_not, Bool.not_eq_true', Bool.not_eq_false', Bool.not_eq_eq_eq_not, Bool.not_true, Bool.not_false, Int.not_lt, Int.not_le] at hb11)
                          all_goals exact absurd hb11 (by simp [curNum_true, curText_true, zero_true])
                        · intro hb11; (try simp only [decide_eq_true_eq, decide_eq_false_iff_not, Bool.not_eq_true', Bool.not_eq_false', Bool.not_eq_eq_eq_not, Bool.not_true, Bool.not_false, Int.not_lt, Int.not_le] at hb11)
                          refine GL_rd (v := .pointer (some ⟨_, _, none⟩)) (wn_on rfl rfl rfl rfl) rfl (rd_move rfl rfl) ?_
                          refine GL_call (wn_on rfl rfl rfl rfl) rfl rfl (cur_Rest p _ (l) (true) _ (hp.get 1 rfl) (fun w' h => (hsuf4 w' (hsuf3 w' (hsuf2 w' (hsufL w' (hsb.keep (hp.modAt 1 rfl h)))))))) rfl ?_
                          rintro _ w ⟨rfl, hk⟩
                          have hp := hp.comp hk
                          refine GL_rd (v := .bool _) (wn_none rfl) rfl (rd_pickF rfl rfl rfl) ?_
                          refine GL_nil ?_
                          refine GW_cond rfl (fun hb12 => ?_) (fun hb12 => ?_)
                          · (try simp only [decide_eq_true_eq, decide_eq_false_iff_not, Bool.not_eq_true', Bool.not_eq_false', Bool.not_eq_eq_eq_not, Bool.not_true, Bool.not_false, Int.not_lt, Int.not_le] at hb12)
                            all_goals exact absurd hb12 (by simp)
                          · (try simp only [decide_eq_true_eq, decide_eq_false_iff_not, Bool.not_eq_true', Bool.not_eq_false', Bool.not_eq_eq_eq_not, Bool.not_true, Bool.not_false, Int.not_lt, Int.not_le] at hb12)
                            refine GW_skip ?_
                            refine GW_region ?_
                            refine GL_rd (v := .int _ _) (wn_none rfl) rfl (rd_move rfl rfl) ?_
                            refine GL_rd (wn_none rfl) rfl (rd_bin rfl rfl rfl (bo_add64 (by omega))) ?_
                            refine GL_rd (v := .int _ _) (wn_none rfl) rfl (rd_assign rfl rfl) ?_
                            refine GL_nil ?_
                            have hp := hp.drop 1
                            exact ihL0 (i + 1, bv4) _ _ (by simp only []; omega) ⟨_, slots3 rfl rfl rfl, hp, (by omega), (((hsufL.trans hsuf2).trans hsuf3).trans hsuf4)⟩
                · (try simp only [decide_eq_true_eq, decide_eq_false_iff_not, Bool.not_eq_true', Bool.not_eq_false', Bool.not_eq_eq_eq_not, Bool.not_true, Bool.not_false, Int.not_lt, Int.not_le] at hb7)
                  refine GW_exit ?_
                  refine GW_seq ?_
                  refine GW_region ?_
                  refine GL_call (wn_none rfl) rfl rfl (word_works _) rfl ?_
                  rintro _ w ⟨rfl, hk⟩
                  have hp := hp.comp hk
                  refine GL_rd (v := .bool _) (wn_none rfl) rfl (rd_assign rfl rfl) ?_
                  refine GL_nil ?_
                  refine GW_ret ?_
                  exact ⟨_, res1 Try.results6 (rv_tmp (v := .bool _) rfl rfl), rfl, hp.mods⟩
              · have hp := hp.drop 1
                refine ⟨_, slots3 rfl rfl rfl, hp, Nat.zero_le _, hsuf⟩
      · intro hb3; (try simp only [decide_eq_true_eq, decide_eq_false_iff_not, Bool.not_eq_true', Bool.not_eq_false', Bool.not_eq_eq_eq_not, Bool.not_true, Bool.not_false, Int.not_lt, Int.not_le] at hb3)
        have hno : curOk false l far = false := by simp only [curOk, Bool.not_false, Bool.true_and, decide_eq_false_iff_not]; omega
        refine GL_pass (nw_off rfl rfl rfl rfl rfl) rfl ?_
        refine GL_pass (nw_off rfl rfl rfl rfl rfl) rfl ?_
        refine GL_pass (nw_off rfl rfl rfl rfl rfl) rfl ?_
        refine GL_pass (nw_off rfl rfl rfl rfl rfl) rfl ?_
        refine GL_rd (v := .bool _) (wn_on rfl rfl rfl rfl) rfl (rd_pickF rfl rfl rfl) ?_
        refine GL_rd (v := .bool _) (wn_none rfl) rfl (rd_pickF rfl rfl rfl) ?_
        refine GL_nil ?_
        refine GW_false rfl ?_
        refine GW_skip ?_
        refine GW_seq ?_
        refine GW_region ?_
        refine GL_rd (v := .slice _ _ _) (wn_none rfl) rfl (rd_move rfl rfl) ?_
        refine GL_call (wn_none rfl) rfl rfl (word_From _ _ _ _) rfl ?_
        rintro _ w ⟨p, rfl, hk⟩
        have hp := hp.comp hk
        refine GL_rd (v := .pointer (some ⟨_, _, none⟩)) (wn_none rfl) rfl (rd_assign rfl rfl) ?_
        refine GL_nil ?_
        refine GW_seq ?_
        refine GW_seq ?_
        refine GW_region ?_
        refine GL_rd (v := .pointer (some ⟨_, _, none⟩)) (wn_none rfl) rfl (rd_move rfl rfl) ?_
        refine GL_rd (wn_none rfl) rfl (rd_bin rfl rfl rfl (bo_pnil Try.underlying42)) ?_
        refine GL_nil ?_
        refine GW_false rfl ?_
        refine GW_skip ?_
        refine GW_seq ?_
        refine GW_seq ?_
        refine GW_region ?_
        refine GL_rd (v := .pointer (some ⟨_, _, none⟩)) (wn_none rfl) rfl (rd_move rfl rfl) ?_
        refine GL_rd (v := .int _ _) (wn_none rfl) rfl (rd_move rfl rfl) ?_
        refine GL_call (wn_none rfl) rfl rfl (cur_Bytes p _ (l) (false) _ _ (hp.get 0 rfl) (fun w' h => (hsb.keep (hp.modAt 0 rfl h))) (by omega)) rfl ?_
        rintro v5 w ⟨bv5, hsuf5, hk⟩
        have hp := hp.turnAtMore 0 rfl hk
        obtain ⟨Av5, cv5, rfl⟩ := row_shape (hp.get 0 rfl)
        rw [(cur_no hno).2] at hsuf5
        rw [hno, Bool.not_false] at hp
        refine GL_call (wn_none rfl) rfl rfl (ref_Zero _ _ _ _ (Sl.row (hp.get 0 rfl))) rfl ?_
        rintro _ w ⟨rfl, hk⟩
        have hp := hp.comp hk
        refine GL_rd (wn_none rfl) rfl (rd_not rfl rfl) ?_
        refine GL_rd (v := .bool _) (wn_none rfl) rfl (rd_move rfl rfl) ?_
        refine GL_split (t := 38) (b := _) rfl ?_ ?_
        · intro hb13; (try simp only [decide_eq_true_eq, decide_eq_false_iff_not, Bool.not_eq_true', Bool.not_eq_false', Bool.not_eq_eq_eq_not, Bool.not_true, Bool.not_false, Int.not_lt, Int.not_le] at hb13)
          exact absurd hb13 (by rw [(cur_no hno).1, zeroL_replicate]; decide)
        · intro hb13; (try simp only [decide_eq_true_eq, decide_eq_false_iff_not, Bool.not_eq_true', Bool.not_eq_false', Bool.not_eq_eq_eq_not, Bool.not_true, Bool.not_false, Int.not_lt, Int.not_le] at hb13)
          refine GL_rd (v := .pointer (some ⟨_, _, none⟩)) (wn_on rfl rfl rfl rfl) rfl (rd_move rfl rfl) ?_
          refine GL_call (wn_on rfl rfl rfl rfl) rfl rfl (cur_Right p _ (l) (true) _ (hp.get 1 rfl) (fun w' h => (hsuf5 w' (hsb.keep (hp.modAt 1 rfl h))))) rfl ?_
          rintro _ w ⟨rfl, hk⟩
          have hp := hp.comp hk
          refine GL_rd (v := .bool _) (wn_none rfl) rfl (rd_pickF rfl rfl rfl) ?_
          refine GL_nil ?_
          refine GW_cond rfl (fun hb14 => ?_) (fun hb14 => ?_)
          · (try simp only [decide_eq_true_eq, decide_eq_false_iff_not, Bool.not_eq_true', Bool.not_eq_false', Bool.not_eq_eq_eq_not, Bool.not_true, Bool.not_false, Int.not_lt, Int.not_le] at hb14)
            all_goals exact absurd hb14 (by decide)
          · (try simp only [decide_eq_true_eq, decide_eq_false_iff_not, Bool.not_eq_true', Bool.not_eq_false', Bool.not_eq_eq_eq_not, Bool.not_true, Bool.not_false, Int.not_lt, Int.not_le] at hb14)
            refine GW_skip ?_
            refine GW_seq ?_
            refine GW_seq ?_
            refine GW_region ?_
            refine GL_rd (v := .int _ _) (wn_none rfl) rfl (rd_assign rfl rfl) ?_
            refine GL_nil ?_
            refine GW_block ?_
            refine GW_loop ?_
            refine Lp_ind (α := Nat × Value) (fun a f w' => match a with | (i, bv) => ∃ fz, f = (upd (upd (upd fz 1 (.slice A2 m2 c2)) 7 (.pointer (some ⟨p, 0, none⟩))) 8 (.int .i64 (i : Int))) ∧ Hp w0 [] w' [cells p 126 [bv, .bool true]] ∧ (i ≤ m2) ∧ (Suf (.slice A m c) l bv l)) (fun a => match a with | (i, bv) => m2 - i) ?_ (0, bv5) _ _ ?_
            · rintro ⟨i, bv⟩ f wz ⟨fz, rfl, hp, hi0, hsufL⟩ ihL1
              refine Lp_round ?_
              refine GW_seq ?_
              refine GW_seq ?_
              refine GW_region ?_
              refine GL_rd (v := .int _ _) (wn_none rfl) rfl (rd_move rfl rfl) ?_
              refine GL_rd (v := .slice _ _ _) (wn_none rfl) rfl (rd_move rfl rfl) ?_
              refine GL_rd (wn_none rfl) rfl (rd_len rfl rfl Try.underlying23) ?_
              refine GL_rd (wn_none rfl) rfl (rd_bin rfl rfl rfl bo_lss) ?_
              refine GL_nil ?_
              refine GW_cond rfl (fun hb15 => ?_) (fun hb15 => ?_)
              · (try simp only [decide_eq_true_eq, decide_eq_false_iff_not, Bool.not_eq_true', Bool.not_eq_false', Bool.not_eq_eq_eq_not, Bool.not_true, Bool.not_false, Int.not_lt, Int.not_le] at hb15)
                refine GW_skip ?_
                refine GW_seq ?_
                refine GW_block ?_
                refine GW_seq ?_
                refine GW_region ?_
                refine GL_rd (v := .slice _ _ _) (wn_none rfl) rfl (rd_move rfl rfl) ?_
                refine GL_rd (v := .int _ _) (wn_none rfl) rfl (rd_move rfl rfl) ?_
                obtain ⟨gA, bA, rfl⟩ := ht.addr (by rw [bys_length]; omega)
                refine GL_rd (wn_none rfl) rfl (rd_indexS (j := i) rfl rfl rfl Try.underlying23 ts5 rfl (by omega) _ rfl) ?_
                refine GL_rd (wn_none rfl) rfl (rd_load rfl rfl Try.underlying5 rfl (Sl.byte (ht.keep hp.mod) i (by omega))) ?_
                refine GL_rd (wn_none rfl) rfl (rd_conv8 .i64 rfl rfl Try.underlying3 Try.underlying5 (by simp)) ?_
                refine GL_rd (wn_none rfl) rfl (rd_bin rfl rfl rfl (bo_rem64 (by omega) (by omega))) ?_
                refine GL_rd (v := .int _ _) (wn_none rfl) rfl (rd_assign rfl rfl) ?_
                refine GL_nil ?_
                refine GW_seq ?_
                refine GW_region ?_
                refine GL_rd (v := .pointer (some ⟨_, _, none⟩)) (wn_none rfl) rfl (rd_move rfl rfl) ?_
                refine GL_rd (v := .int _ _) (wn_none rfl) rfl (rd_move rfl rfl) ?_
                refine GL_call (wn_none rfl) rfl rfl (cur_Num p _ (l) (true) _ _ (hp.get 0 rfl) (fun w' h => (hsufL w' (hsb.keep (hp.modAt 0 rfl h)))) (by omega)) rfl ?_
                rintro _ w ⟨bv6, hsuf6, rfl, hk⟩
                have hp := hp.turnAtMore 0 rfl hk
                simp only [curL_true, curOk_true, curTextBad_true, Bool.not_false] at hp hsuf6
                refine GL_rd (wn_none rfl) rfl (rd_bin rfl rfl rfl bo_neq) ?_
                refine GL_rd (v := .bool _) (wn_none rfl) rfl (rd_move rfl rfl) ?_
                refine GL_split (t := 58) (b := _) rfl ?_ ?_
                · intro hb16; (try simp only [decide_eq_true_eq, decide_eq_false_iff_not, Bool.not_eq_true', Bool.not_eq_false', Bool.not_eq_eq_eq_not, Bool.not_true, Bool.not_false, Int.not_lt, Int.not_le] at hb16)
                  all_goals exact absurd hb16 (by simp [curNum_true, curText_true, zero_true])
                · intro hb16; (try simp only [decide_eq_true_eq, decide_eq_false_iff_not, Bool.not_eq_true', Bool.not_eq_false', Bool.not_eq_eq_eq_not, Bool.not_true, Bool.not_false, Int.not_lt, Int.not_le] at hb16)
                  refine GL_rd (v := .pointer (some ⟨_, _, none⟩)) (wn_on rfl rfl rfl rfl) rfl (rd_move rfl rfl) ?_
                  refine GL_rd (v := .int _ _) (wn_on rfl rfl rfl rfl) rfl (rd_move rfl rfl) ?_
                  refine GL_rd (wn_on rfl rfl rfl rfl) rfl (rd_bin rfl rfl rfl (bo_add64 (by omega))) ?_
                  refine GL_call (wn_on rfl rfl rfl rfl) rfl rfl (cur_Text p _ (l) (true) _ _ (hp.get 0 rfl) (fun w' h => (hsuf6 w' (hsufL w' (hsb.keep (hp.modAt 0 rfl h))))) (by omega)) rfl ?_
                  rintro _ w ⟨bv7, hsuf7, rfl, hk⟩
                  have hp := hp.turnAtMore 0 rfl hk
                  simp only [curL_true, curOk_true, curTextBad_true, Bool.not_false] at hp hsuf7
                  refine GL_rd (wn_on rfl rfl rfl rfl) rfl (rd_bin rfl rfl rfl bo_sneq) ?_
                  refine GL_rd (v := .bool _) (wn_none rfl) rfl (rd_pickF rfl rfl rfl) ?_
                  refine GL_rd (v := .bool _) (wn_none rfl) rfl (rd_move rfl rfl) ?_
                  refine GL_split (t := 65) (b := _) rfl ?_ ?_
                  · intro hb17; (try simp only [decide_eq_true_eq, decide_eq_false_iff_not, Bool.not_eq_true', Bool.not_eq_false', Bool.not_eq_eq_eq_not, Bool.not_true, Bool.not_false, Int.not_lt, Int.not_le] at hb17)
                    all_goals exact absurd hb17 (by simp [curNum_true, curText_true, zero_true])
                  · intro hb17; (try simp only [decide_eq_true_eq, decide_eq_false_iff_not, Bool.not_eq_true', Bool.not_eq_false', Bool.not_eq_eq_eq_not, Bool.not_true, Bool.not_false, Int.not_lt, Int.not_le] at hb17)
                    refine GL_rd (v := .pointer (some ⟨_, _, none⟩)) (wn_on rfl rfl rfl rfl) rfl (rd_move rfl rfl) ?_
                    refine GL_rd (v := .int _ _) (wn_on rfl rfl rfl rfl) rfl (rd_move rfl rfl) ?_
                    refine GL_call (wn_on rfl rfl rfl rfl) rfl rfl (cur_Bytes p _ (l) (true) _ _ (hp.get 0 rfl) (fun w' h => (hsuf7 w' (hsuf6 w' (hsufL w' (hsb.keep (hp.modAt 0 rfl h)))))) (by omega)) rfl ?_
                    rintro v8 w ⟨bv8, hsuf8, hk⟩
                    have hp := hp.turnAtMore 0 rfl hk
                    obtain ⟨Av8, cv8, rfl⟩ := row_shape (hp.get 0 rfl)
                    simp only [curL_true, curOk_true, curTextBad_true, Bool.not_false] at hp hsuf8
                    refine GL_call (wn_on rfl rfl rfl rfl) rfl rfl (ref_Zero _ _ _ _ (Sl.row (hp.get 0 rfl))) rfl ?_
                    rintro _ w ⟨rfl, hk⟩
                    have hp := hp.comp hk
                    refine GL_rd (wn_on rfl rfl rfl rfl) rfl (rd_not rfl rfl) ?_
                    refine GL_rd (v := .bool _) (wn_none rfl) rfl (rd_pickF rfl rfl rfl) ?_
                    refine GL_rd (v := .bool _) (wn_none rfl) rfl (rd_move rfl rfl) ?_
                    refine GL_split (t := 72) (b := _) rfl ?_ ?_
                    · intro hb18; (try simp only [decide_eq_true_eq, decide_eq_false_iff_not, Bool.not_eq_true', Bool.not_eq_false', Bool.not_eq_eq_eq_not, Bool.not_true, Bool.not_false, Int.not_lt, Int.not_le] at hb18)
                      all_goals exact absurd hb18 (by simp [curNum_true, curText_true, zero_true])
                    · intro hb18; (try simp only [decide_eq_true_eq, decide_eq_false_iff_not, Bool.not_eq_true', Bool.not_eq_false', Bool.not_eq_eq_eq_not, Bool.not_true, Bool.not_false, Int.not_lt, Int.not_le] at hb18)
                      refine GL_rd (v := .pointer (some ⟨_, _, none⟩)) (wn_on rfl rfl rfl rfl) rfl (rd_move rfl rfl) ?_
                      refine GL_call (wn_on rfl rfl rfl rfl) rfl rfl (cur_Right p _ (l) (true) _ (hp.get 1 rfl) (fun w' h => (hsuf8 w' (hsuf7 w' (hsuf6 w' (hsufL w' (hsb.keep (hp.modAt 1 rfl h)))))))) rfl ?_
                      rintro _ w ⟨rfl, hk⟩
                      have hp := hp.comp hk
                      refine GL_rd (v := .bool _) (wn_none rfl) rfl (rd_pickF rfl rfl rfl) ?_
                      refine GL_rd (v := .bool _) (wn_none rfl) rfl (rd_move rfl rfl) ?_
                      refine GL_split (t := 76) (b := _) rfl ?_ ?_
                      · intro hb19; (try simp only [decide_eq_true_eq, decide_eq_false_iff_not, Bool.not_eq_true', Bool.not_eq_false', Bool.not_eq_eq_eq_not, Bool.not_true, Bool.not_false, Int.not_lt, Int.not_le] at hb19)
                        all_goals exact absurd hb19 (by simp [curNum_true, curText_true, zero_true])
                      · intro hb19; (try simp only [decide_eq_true_eq, decide_eq_false_iff_not, Bool.not_eq_true', Bool.not_eq_false', Bool.not_eq_eq_eq_not, Bool.not_true, Bool.not_false, Int.not_lt, Int.not_le] at hb19)
                        refine GL_rd (v := .pointer (some ⟨_, _, none⟩)) (wn_on rfl rfl rfl rfl) rfl (rd_move rfl rfl) ?_
                        refine GL_call (wn_on rfl rfl rfl rfl) rfl rfl (cur_Rest p _ (l) (true) _ (hp.get 1 rfl) (fun w' h => (hsuf8 w' (hsuf7 w' (hsuf6 w' (hsufL w' (hsb.keep (hp.modAt 1 rfl h)))))))) rfl ?_
                        rintro _ w ⟨rfl, hk⟩
                        have hp := hp.comp hk
                        refine GL_rd (v := .bool _) (wn_none rfl) rfl (rd_pickF rfl rfl rfl) ?_
                        refine GL_nil ?_
                        refine GW_cond rfl (fun hb20 => ?_) (fun hb20 => ?_)
                        · (try simp only [decide_eq_true_eq, decide_eq_false_iff_not, Bool.not_eq_true', Bool.not_eq_false', Bool.not_eq_eq_eq_not, Bool.not_true, Bool.not_false, Int.not_lt, Int.not_le] at hb20)
                          all_goals exact absurd hb20 (by simp)
                        · (try simp only [decide_eq_true_eq, decide_eq_false_iff_not, Bool.not_eq_true', Bool.not_eq_false', Bool.not_eq_eq_eq_not, Bool.not_true, Bool.not_false, Int.not_lt, Int.not_le] at hb20)
                          refine GW_skip ?_
                          refine GW_region ?_
                          refine GL_rd (v := .int _ _) (wn_none rfl) rfl (rd_move rfl rfl) ?_
                          refine GL_rd (wn_none rfl) rfl (rd_bin rfl rfl rfl (bo_add64 (by omega))) ?_
                          refine GL_rd (v := .int _ _) (wn_none rfl) rfl (rd_assign rfl rfl) ?_
                          refine GL_nil ?_
                          have hp := hp.drop 1
                          exact ihL1 (i + 1, bv8) _ _ (by simp only []; omega) ⟨_, slots3 rfl rfl rfl, hp, (by omega), (((hsufL.trans hsuf6).trans hsuf7).trans hsuf8)⟩
              · (try simp only [decide_eq_true_eq, decide_eq_false_iff_not, Bool.not_eq_true', Bool.not_eq_false', Bool.not_eq_eq_eq_not, Bool.not_true, Bool.not_false, Int.not_lt, Int.not_le] at hb15)
                refine GW_exit ?_
                refine GW_seq ?_
                refine GW_region ?_
                refine GL_call (wn_none rfl) rfl rfl (word_works _) rfl ?_
                rintro _ w ⟨rfl, hk⟩
                have hp := hp.comp hk
                refine GL_rd (v := .bool _) (wn_none rfl) rfl (rd_assign rfl rfl) ?_
                refine GL_nil ?_
                refine GW_ret ?_
                exact ⟨_, res1 Try.results6 (rv_tmp (v := .bool _) rfl rfl), rfl, hp.mods⟩
            · have hp := hp.drop 1
              refine ⟨_, slots3 rfl rfl rfl, hp, Nat.zero_le _, hsuf5⟩

theorem law_Back (sv : Value) (m : Nat) (fs : List FieldM) (w0 : World) (hs : Sl w0 sv 4 m (fs.flatMap FieldM.cells)) (hok : ∀ x ∈ fs, x.ok) (hfl : fs.length = m) : Does Try.prog 5 #[sv] w0 fun v w' => v = .bool true ∧ Hp w0 [] w' [] := by
  obtain ⟨A, c, rfl⟩ := sl_shape hs
  have hmle := hs.le
  refine does_of (l := [.slice A m c]) Try.func5 (by kernel_rfl) rfl Try.ntmps5 rfl rfl ?_
  have hp := Hp.refl w0 []
  refine GW_seq ?_
  refine GW_region ?_
  refine GL_rd (v := .bool _) (wn_none rfl) rfl (rd_assign rfl rfl) ?_
  refine GL_nil ?_
  refine GW_seq ?_
  refine GW_seq ?_
  refine GW_region ?_
  refine GL_rd (v := .slice _ _ _) (wn_none rfl) rfl (rd_move rfl rfl) ?_
  refine GL_rd (wn_none rfl) rfl (rd_len rfl rfl Try.underlying39) ?_
  refine GL_rd (wn_none rfl) rfl (rd_bin rfl rfl rfl bo_gtr) ?_
  refine GL_nil ?_
  refine GW_cond rfl (fun hb => ?_) (fun hb => ?_)
  · (try simp only [decide_eq_true_eq, decide_eq_false_iff_not, Bool.not_eq_true', Bool.not_eq_false', Bool.not_eq_eq_eq_not, Bool.not_true, Bool.not_false, Int.not_lt, Int.not_le] at hb)
    refine GW_seq ?_
    refine GW_region ?_
    refine GL_call (wn_none rfl) rfl rfl (word_works _) rfl ?_
    rintro _ w ⟨rfl, hk⟩
    have hp := hp.comp hk
    refine GL_rd (v := .bool _) (wn_none rfl) rfl (rd_assign rfl rfl) ?_
    refine GL_nil ?_
    refine GW_ret ?_
    exact ⟨_, res1 Try.results5 (rv_tmp (v := .bool _) rfl rfl), rfl, hp.mods⟩
  · (try simp only [decide_eq_true_eq, decide_eq_false_iff_not, Bool.not_eq_true', Bool.not_eq_false', Bool.not_eq_eq_eq_not, Bool.not_true, Bool.not_false, Int.not_lt, Int.not_le] at hb)
    refine GW_skip ?_
    refine GW_seq ?_
    refine GW_region ?_
    refine GL_rd (v := .slice _ _ _) (wn_none rfl) rfl (rd_assign rfl rfl) ?_
    refine GL_nil ?_
    refine GW_seq ?_
    refine GW_seq ?_
    refine GW_region ?_
    refine GL_rd (v := .int _ _) (wn_none rfl) rfl (rd_assign rfl rfl) ?_
    refine GL_nil ?_
    refine GW_block ?_
    refine GW_loop ?_
    refine Lp_ind (α := Nat × Value) (fun a f w' => match a with | (i, bv) => ∃ fz, f = (upd (upd (upd fz 0 (.slice A m c)) 3 (bv)) 4 (.int .i64 (i : Int))) ∧ Hp w0 [] w' [.row 5 1 bv (bytesF (fs.take i)).length (bys (bytesF (fs.take i)))] ∧ (i ≤ m) ∧ (∀ y ∈ fs.take i, y.fits) ∧ ((bytesF (fs.take i)).length ≤ 8 * i)) (fun a => match a with | (i, bv) => m - i) ?_ (0, .slice none 0 0) _ _ ?_
    · rintro ⟨i, bv⟩ f wz ⟨fz, rfl, hp, hi0, hfit, hlen⟩ ihL0
      refine Lp_round ?_
      refine GW_seq ?_
      refine GW_seq ?_
      refine GW_region ?_
      refine GL_rd (v := .int _ _) (wn_none rfl) rfl (rd_move rfl rfl) ?_
      refine GL_rd (v := .slice _ _ _) (wn_none rfl) rfl (rd_move rfl rfl) ?_
      refine GL_rd (wn_none rfl) rfl (rd_len rfl rfl Try.underlying39) ?_
      refine GL_rd (wn_none rfl) rfl (rd_bin rfl rfl rfl bo_lss) ?_
      refine GL_nil ?_
      refine GW_cond rfl (fun hb2 => ?_) (fun hb2 => ?_)
      · (try simp only [decide_eq_true_eq, decide_eq_false_iff_not, Bool.not_eq_true', Bool.not_eq_false', Bool.not_eq_eq_eq_not, Bool.not_true, Bool.not_false, Int.not_lt, Int.not_le] at hb2)
        obtain ⟨x, hx⟩ : ∃ x, fs[i]? = some x := ⟨_, List.getElem?_eq_getElem (by omega)⟩
        obtain ⟨hxn, hxs⟩ := hok x (List.mem_of_getElem? hx)
        obtain ⟨gA, bA, rfl⟩ := hs.addr (by rw [flat_length FieldM.cells_length]; omega)
        have hk8 := x.k_le
        refine GW_skip ?_
        refine GW_seq ?_
        refine GW_block ?_
        refine GW_seq ?_
        refine GW_region ?_
        refine GL_rd (v := .slice _ _ _) (wn_none rfl) rfl (rd_move rfl rfl) ?_
        refine GL_rd (v := .int _ _) (wn_none rfl) rfl (rd_move rfl rfl) ?_
        refine GL_rd (wn_none rfl) rfl (rd_indexS (j := i) rfl rfl rfl Try.underlying39 ts41 rfl (by omega) _ rfl) ?_
        refine GL_rd (wn_none rfl) rfl (rd_field rfl rfl fa41_1 _ rfl) ?_
        refine GL_rd (wn_none rfl) rfl (rd_load rfl rfl Try.underlying5 rfl ((hs.keep hp.mod).elem FieldM.cells_length i 1 (by decide) hx rfl)) ?_
        refine GL_rd (wn_none rfl) rfl (rd_conv8 .i64 rfl rfl Try.underlying3 Try.underlying5 (by simp)) ?_
        refine GL_rd (wn_none rfl) rfl (rd_bin rfl rfl rfl (bo_rem64 (by omega) (by omega))) ?_
        refine GL_rd (wn_none rfl) rfl (rd_bin rfl rfl rfl (bo_int (bo_add64 (by omega)) x.k_int)) ?_
        refine GL_rd (v := .int _ _) (wn_none rfl) rfl (rd_assign rfl rfl) ?_
        refine GL_nil ?_
        refine GW_seq ?_
        refine GW_seq ?_
        refine GW_region ?_
        refine GL_rd (v := .slice _ _ _) (wn_none rfl) rfl (rd_move rfl rfl) ?_
        refine GL_rd (v := .int _ _) (wn_none rfl) rfl (rd_move rfl rfl) ?_
        refine GL_rd (wn_none rfl) rfl (rd_indexS (j := i) rfl rfl rfl Try.underlying39 ts41 rfl (by omega) _ rfl) ?_
        refine GL_rd (wn_none rfl) rfl (rd_field rfl rfl fa41_3 _ rfl) ?_
        refine GL_rd (wn_none rfl) rfl (rd_load rfl rfl Try.underlying9 rfl ((hs.keep hp.mod).elem FieldM.cells_length i 3 (by decide) hx rfl)) ?_
        refine GL_rd (wn_none rfl) rfl (rd_lenS rfl rfl Try.underlying9) ?_
        refine GL_rd (v := .int _ _) (wn_none rfl) rfl (rd_move rfl rfl) ?_
        refine GL_rd (wn_none rfl) rfl (rd_bin rfl rfl rfl (bo_sub64 (by omega))) ?_
        refine GL_rd (wn_none rfl) rfl (rd_bin rfl rfl rfl bo_gtr) ?_
        refine GL_rd (v := .bool _) (wn_none rfl) rfl (rd_move rfl rfl) ?_
        refine GL_split (t := 39) (b := _) rfl ?_ ?_
        · intro hb3; (try simp only [decide_eq_true_eq, decide_eq_false_iff_not, Bool.not_eq_true', Bool.not_eq_false', Bool.not_eq_eq_eq_not, Bool.not_true, Bool.not_false, Int.not_lt, Int.not_le] at hb3)
          refine GL_rd (v := .slice _ _ _) (wn_on rfl rfl rfl rfl) rfl (rd_move rfl rfl) ?_
          refine GL_rd (v := .int _ _) (wn_on rfl rfl rfl rfl) rfl (rd_move rfl rfl) ?_
          refine GL_rd (wn_on rfl rfl rfl rfl) rfl (rd_indexS (j := i) rfl rfl rfl Try.underlying39 ts41 rfl (by omega) _ rfl) ?_
          refine GL_rd (wn_on rfl rfl rfl rfl) rfl (rd_field rfl rfl fa41_0 _ rfl) ?_
          refine GL_rd (wn_on rfl rfl rfl rfl) rfl (rd_load rfl rfl Try.underlying4 rfl ((hs.keep hp.mod).elem FieldM.cells_length i 0 (by decide) hx rfl)) ?_
          refine GL_rd (v := .bool _) (wn_none rfl) rfl (rd_pickT rfl rfl rfl) ?_
          refine GL_nil ?_
          refine GW_cond rfl (fun hb4 => ?_) (fun hb4 => ?_)
          · (try simp only [decide_eq_true_eq, decide_eq_false_iff_not, Bool.not_eq_true', Bool.not_eq_false', Bool.not_eq_eq_eq_not, Bool.not_true, Bool.not_false, Int.not_lt, Int.not_le] at hb4)
            refine GW_seq ?_
            refine GW_region ?_
            refine GL_call (wn_none rfl) rfl rfl (word_works _) rfl ?_
            rintro _ w ⟨rfl, hk⟩
            have hp := hp.comp hk
            refine GL_rd (v := .bool _) (wn_none rfl) rfl (rd_assign rfl rfl) ?_
            refine GL_nil ?_
            refine GW_ret ?_
            exact ⟨_, res1 Try.results5 (rv_tmp (v := .bool _) rfl rfl), rfl, hp.mods⟩
          · (try simp only [decide_eq_true_eq, decide_eq_false_iff_not, Bool.not_eq_true', Bool.not_eq_false', Bool.not_eq_eq_eq_not, Bool.not_true, Bool.not_false, Int.not_lt, Int.not_le] at hb4)
            have hbq := hb4
            have hfx : x.fits := fun hq => by simp only [hbq] at hq; cases hq
            refine GW_skip ?_
            refine GW_seq ?_
            refine GW_region ?_
            refine GL_rd (v := .slice _ _ _) (wn_none rfl) rfl (rd_move rfl rfl) ?_
            refine GL_rd (v := .int _ _) (wn_none rfl) rfl (rd_move rfl rfl) ?_
            refine GL_rd (wn_none rfl) rfl (rd_indexS (j := i) rfl rfl rfl Try.underlying39 ts41 rfl (by omega) _ rfl) ?_
            refine GL_rd (wn_none rfl) rfl (rd_field rfl rfl fa41_0 _ rfl) ?_
            refine GL_rd (wn_none rfl) rfl (rd_load rfl rfl Try.underlying4 rfl ((hs.keep hp.mod).elem FieldM.cells_length i 0 (by decide) hx rfl)) ?_
            refine GL_nil ?_
            refine GW_cond rfl (fun hb5 => ?_) (fun hb5 => ?_)
            · (try simp only [decide_eq_true_eq, decide_eq_false_iff_not, Bool.not_eq_true', Bool.not_eq_false', Bool.not_eq_eq_eq_not, Bool.not_true, Bool.not_false, Int.not_lt, Int.not_le] at hb5)
              have hbx := hb5
              have hsz := hfx hbx
              have h8 := bytes8 hfx
              rw [FieldM.bytes_text hbx] at h8
              refine GW_seq ?_
              refine GW_region ?_
              refine GL_rd (v := .slice _ _ _) (wn_none rfl) rfl (rd_move rfl rfl) ?_
              refine GL_rd (v := .int _ _) (wn_none rfl) rfl (rd_move rfl rfl) ?_
              refine GL_rd (wn_none rfl) rfl (rd_indexS (j := i) rfl rfl rfl Try.underlying39 ts41 rfl (by omega) _ rfl) ?_
              refine GL_rd (wn_none rfl) rfl (rd_field rfl rfl fa41_3 _ rfl) ?_
              refine GL_rd (wn_none rfl) rfl (rd_load rfl rfl Try.underlying9 rfl ((hs.keep hp.mod).elem FieldM.cells_length i 3 (by decide) hx rfl)) ?_
              refine GL_rd (v := .int _ _) (wn_none rfl) rfl (rd_move rfl rfl) ?_
              refine GL_call (wn_none rfl) rfl rfl (word_Pad x.s (x.k : Int) _ (by omega)) rfl ?_
              rintro _ w ⟨x1, rfl, hk⟩
              have hp := hp.comp hk
              refine GL_rd (v := .tuple _) (wn_none rfl) rfl (rd_move rfl rfl) ?_
              refine GL_rd (v := x1) (wn_none rfl) rfl (rd_extract rfl rfl rfl) ?_
              refine GL_rd (v := .int _ _) (wn_none rfl) rfl (rd_extract rfl rfl rfl) ?_
              refine GL_rd (v := x1) (wn_none rfl) rfl (rd_assign rfl rfl) ?_
              refine GL_rd (v := .int _ _) (wn_none rfl) rfl (rd_assign rfl rfl) ?_
              refine GL_nil ?_
              refine GW_region ?_
              refine GL_rd (v := bv) (wn_none rfl) rfl (rd_move rfl rfl) ?_
              refine GL_rd (v := x1) (wn_none rfl) rfl (rd_move rfl rfl) ?_
              refine GL_append (i := 1) (wn_none rfl) rfl rfl rfl rfl Try.underlying23 ti5 rfl (by decide) hp rfl (Sl.row (hp.get 0 rfl)) (bys_one _) (by omega) (by omega) ?_
              intro v w hp
              refine GL_rd (v := v) (wn_none rfl) rfl (rd_assign rfl rfl) ?_
              refine GL_nil ?_
              refine GW_region ?_
              refine GL_rd (v := .int _ _) (wn_none rfl) rfl (rd_move rfl rfl) ?_
              refine GL_rd (wn_none rfl) rfl (rd_bin rfl rfl rfl (bo_add64 (by omega))) ?_
              refine GL_rd (v := .int _ _) (wn_none rfl) rfl (rd_assign rfl rfl) ?_
              refine GL_nil ?_
              have e1 := bytesF_take hx
              have h8 := bytes8 hfx
              have hp := hp.drop 1
              have hp : Hp w0 [] w [.row 5 1 v (bytesF (fs.take (i + 1))).length (bys (bytesF (fs.take (i + 1))))] := by rw [e1, FieldM.bytes_text hbx, bys_append, List.length_append]; exact hp
              exact ihL0 (i + 1, v) _ _ (by simp only []; omega) ⟨_, slots3 rfl rfl rfl, hp, by omega, fits_take hx hfit hfx, by rw [e1, List.length_append]; omega⟩
            · (try simp only [decide_eq_true_eq, decide_eq_false_iff_not, Bool.not_eq_true', Bool.not_eq_false', Bool.not_eq_eq_eq_not, Bool.not_true, Bool.not_false, Int.not_lt, Int.not_le] at hb5)
              have hbx := hb5
              refine GW_region ?_
              refine GL_rd (v := bv) (wn_none rfl) rfl (rd_move rfl rfl) ?_
              refine GL_rd (v := .slice _ _ _) (wn_none rfl) rfl (rd_move rfl rfl) ?_
              refine GL_rd (v := .int _ _) (wn_none rfl) rfl (rd_move rfl rfl) ?_
              refine GL_rd (wn_none rfl) rfl (rd_indexS (j := i) rfl rfl rfl Try.underlying39 ts41 rfl (by omega) _ rfl) ?_
              refine GL_rd (wn_none rfl) rfl (rd_field rfl rfl fa41_2 _ rfl) ?_
              refine GL_rd (wn_none rfl) rfl (rd_load rfl rfl Try.underlying22 rfl ((hs.keep hp.mod).elem FieldM.cells_length i 2 (by decide) hx rfl)) ?_
              refine GL_rd (v := .int _ _) (wn_none rfl) rfl (rd_move rfl rfl) ?_
              refine GL_call (wn_none rfl) rfl rfl (word_Put x.n (x.k : Int) _ hxn (by omega)) rfl ?_
              rintro _ w ⟨gP, rfl, hk⟩
              have hp := hp.comp hk
              refine GL_append (i := 1) (wn_none rfl) rfl rfl rfl rfl Try.underlying23 ti5 rfl (by decide) hp rfl (Sl.row (hp.get 0 rfl)) (bys_one _) (by omega) (by omega) ?_
              intro v2 w hp
              refine GL_rd (v := v2) (wn_none rfl) rfl (rd_assign rfl rfl) ?_
              refine GL_nil ?_
              refine GW_region ?_
              refine GL_rd (v := .int _ _) (wn_none rfl) rfl (rd_move rfl rfl) ?_
              refine GL_rd (wn_none rfl) rfl (rd_bin rfl rfl rfl (bo_add64 (by omega))) ?_
              refine GL_rd (v := .int _ _) (wn_none rfl) rfl (rd_assign rfl rfl) ?_
              refine GL_nil ?_
              have e1 := bytesF_take hx
              have h8 := bytes8 hfx
              have hp := hp.drop 1
              have hp : Hp w0 [] w [.row 5 1 v2 (bytesF (fs.take (i + 1))).length (bys (bytesF (fs.take (i + 1))))] := by rw [e1, FieldM.bytes_num hbx, bys_append, List.length_append, putL_length]; exact hp
              exact ihL0 (i + 1, v2) _ _ (by simp only []; omega) ⟨_, slots3 rfl rfl rfl, hp, by omega, fits_take hx hfit hfx, by rw [e1, List.length_append]; omega⟩
        · intro hb3; (try simp only [decide_eq_true_eq, decide_eq_false_iff_not, Bool.not_eq_true', Bool.not_eq_false', Bool.not_eq_eq_eq_not, Bool.not_true, Bool.not_false, Int.not_lt, Int.not_le] at hb3)
          have hfx : x.fits := fun _ => by have := x.k_int; omega
          refine GL_pass (nw_off rfl rfl rfl rfl rfl) rfl ?_
          refine GL_pass (nw_off rfl rfl rfl rfl rfl) rfl ?_
          refine GL_pass (nw_off rfl rfl rfl rfl rfl) rfl ?_
          refine GL_pass (nw_off rfl rfl rfl rfl rfl) rfl ?_
          refine GL_pass (nw_off rfl rfl rfl rfl rfl) rfl ?_
          refine GL_rd (v := .bool _) (wn_none rfl) rfl (rd_pickF rfl rfl rfl) ?_
          refine GL_nil ?_
          refine GW_false rfl ?_
          refine GW_skip ?_
          refine GW_seq ?_
          refine GW_region ?_
          refine GL_rd (v := .slice _ _ _) (wn_none rfl) rfl (rd_move rfl rfl) ?_
          refine GL_rd (v := .int _ _) (wn_none rfl) rfl (rd_move rfl rfl) ?_
          refine GL_rd (wn_none rfl) rfl (rd_indexS (j := i) rfl rfl rfl Try.underlying39 ts41 rfl (by omega) _ rfl) ?_
          refine GL_rd (wn_none rfl) rfl (rd_field rfl rfl fa41_0 _ rfl) ?_
          refine GL_rd (wn_none rfl) rfl (rd_load rfl rfl Try.underlying4 rfl ((hs.keep hp.mod).elem FieldM.cells_length i 0 (by decide) hx rfl)) ?_
          refine GL_nil ?_
          refine GW_cond rfl (fun hb6 => ?_) (fun hb6 => ?_)
          · (try simp only [decide_eq_true_eq, decide_eq_false_iff_not, Bool.not_eq_true', Bool.not_eq_false', Bool.not_eq_eq_eq_not, Bool.not_true, Bool.not_false, Int.not_lt, Int.not_le] at hb6)
            have hbx := hb6
            have hsz := hfx hbx
            have h8 := bytes8 hfx
            rw [FieldM.bytes_text hbx] at h8
            refine GW_seq ?_
            refine GW_region ?_
            refine GL_rd (v := .slice _ _ _) (wn_none rfl) rfl (rd_move rfl rfl) ?_
            refine GL_rd (v := .int _ _) (wn_none rfl) rfl (rd_move rfl rfl) ?_
            refine GL_rd (wn_none rfl) rfl (rd_indexS (j := i) rfl rfl rfl Try.underlying39 ts41 rfl (by omega) _ rfl) ?_
            refine GL_rd (wn_none rfl) rfl (rd_field rfl rfl fa41_3 _ rfl) ?_
            refine GL_rd (wn_none rfl) rfl (rd_load rfl rfl Try.underlying9 rfl ((hs.keep hp.mod).elem FieldM.cells_length i 3 (by decide) hx rfl)) ?_
            refine GL_rd (v := .int _ _) (wn_none rfl) rfl (rd_move rfl rfl) ?_
            refine GL_call (wn_none rfl) rfl rfl (word_Pad x.s (x.k : Int) _ (by omega)) rfl ?_
            rintro _ w ⟨x1, rfl, hk⟩
            have hp := hp.comp hk
            refine GL_rd (v := .tuple _) (wn_none rfl) rfl (rd_move rfl rfl) ?_
            refine GL_rd (v := x1) (wn_none rfl) rfl (rd_extract rfl rfl rfl) ?_
            refine GL_rd (v := .int _ _) (wn_none rfl) rfl (rd_extract rfl rfl rfl) ?_
            refine GL_rd (v := x1) (wn_none rfl) rfl (rd_assign rfl rfl) ?_
            refine GL_rd (v := .int _ _) (wn_none rfl) rfl (rd_assign rfl rfl) ?_
            refine GL_nil ?_
            refine GW_region ?_
            refine GL_rd (v := bv) (wn_none rfl) rfl (rd_move rfl rfl) ?_
            refine GL_rd (v := x1) (wn_none rfl) rfl (rd_move rfl rfl) ?_
            refine GL_append (i := 1) (wn_none rfl) rfl rfl rfl rfl Try.underlying23 ti5 rfl (by decide) hp rfl (Sl.row (hp.get 0 rfl)) (bys_one _) (by omega) (by omega) ?_
            intro v3 w hp
            refine GL_rd (v := v3) (wn_none rfl) rfl (rd_assign rfl rfl) ?_
            refine GL_nil ?_
            refine GW_region ?_
            refine GL_rd (v := .int _ _) (wn_none rfl) rfl (rd_move rfl rfl) ?_
            refine GL_rd (wn_none rfl) rfl (rd_bin rfl rfl rfl (bo_add64 (by omega))) ?_
            refine GL_rd (v := .int _ _) (wn_none rfl) rfl (rd_assign rfl rfl) ?_
            refine GL_nil ?_
            have e1 := bytesF_take hx
            have h8 := bytes8 hfx
            have hp := hp.drop 1
            have hp : Hp w0 [] w [.row 5 1 v3 (bytesF (fs.take (i + 1))).length (bys (bytesF (fs.take (i + 1))))] := by rw [e1, FieldM.bytes_text hbx, bys_append, List.length_append]; exact hp
            exact ihL0 (i + 1, v3) _ _ (by simp only []; omega) ⟨_, slots3 rfl rfl rfl, hp, by omega, fits_take hx hfit hfx, by rw [e1, List.length_append]; omega⟩
          · (try simp only [decide_eq_true_eq, decide_eq_false_iff_not, Bool.not_eq_true', Bool.not_eq_false', Bool.not_eq_eq_eq_not, Bool.not_true, Bool.not_false, Int.not_lt, Int.not_le] at hb6)
            have hbx := hb6
            refine GW_region ?_
            refine GL_rd (v := bv) (wn_none rfl) rfl (rd_move rfl rfl) ?_
            refine GL_rd (v := .slice _ _ _) (wn_none rfl) rfl (rd_move rfl rfl) ?_
            refine GL_rd (v := .int _ _) (wn_none rfl) rfl (rd_move rfl rfl) ?_
            refine GL_rd (wn_none rfl) rfl (rd_indexS (j := i) rfl rfl rfl Try.underlying39 ts41 rfl (by omega) _ rfl) ?_
            refine GL_rd (wn_none rfl) rfl (rd_field rfl rfl fa41_2 _ rfl) ?_
            refine GL_rd (wn_none rfl) rfl (rd_load rfl rfl Try.underlying22 rfl ((hs.keep hp.mod).elem FieldM.cells_length i 2 (by decide) hx rfl)) ?_
            refine GL_rd (v := .int _ _) (wn_none rfl) rfl (rd_move rfl rfl) ?_
            refine GL_call (wn_none rfl) rfl rfl (word_Put x.n (x.k : Int) _ hxn (by omega)) rfl ?_
            rintro _ w ⟨gP, rfl, hk⟩
            have hp := hp.comp hk
            refine GL_append (i := 1) (wn_none rfl) rfl rfl rfl rfl Try.underlying23 ti5 rfl (by decide) hp rfl (Sl.row (hp.get 0 rfl)) (bys_one _) (by omega) (by omega) ?_
            intro v4 w hp
            refine GL_rd (v := v4) (wn_none rfl) rfl (rd_assign rfl rfl) ?_
            refine GL_nil ?_
            refine GW_region ?_
            refine GL_rd (v := .int _ _) (wn_none rfl) rfl (rd_move rfl rfl) ?_
            refine GL_rd (wn_none rfl) rfl (rd_bin rfl rfl rfl (bo_add64 (by omega))) ?_
            refine GL_rd (v := .int _ _) (wn_none rfl) rfl (rd_assign rfl rfl) ?_
            refine GL_nil ?_
            have e1 := bytesF_take hx
            have h8 := bytes8 hfx
            have hp := hp.drop 1
            have hp : Hp w0 [] w [.row 5 1 v4 (bytesF (fs.take (i + 1))).length (bys (bytesF (fs.take (i + 1))))] := by rw [e1, FieldM.bytes_num hbx, bys_append, List.length_append, putL_length]; exact hp
            exact ihL0 (i + 1, v4) _ _ (by simp only []; omega) ⟨_, slots3 rfl rfl rfl, hp, by omega, fits_take hx hfit hfx, by rw [e1, List.length_append]; omega⟩
      · (try simp only [decide_eq_true_eq, decide_eq_false_iff_not, Bool.not_eq_true', Bool.not_eq_false', Bool.not_eq_eq_eq_not, Bool.not_true, Bool.not_false, Int.not_lt, Int.not_le] at hb2)
        have him : i = m := by omega
        rw [List.take_of_length_le (by omega)] at hp hfit hlen
        obtain ⟨Ab, cb, rfl⟩ := row_shape (hp.get 0 rfl)
        refine GW_exit ?_
        refine GW_seq ?_
        refine GW_region ?_
        refine GL_rd (v := .slice _ _ _) (wn_none rfl) rfl (rd_move rfl rfl) ?_
        refine GL_call (wn_none rfl) rfl rfl (word_From _ _ _ _) rfl ?_
        rintro _ w ⟨p, rfl, hk⟩
        have hp := hp.comp hk
        refine GL_rd (v := .pointer (some ⟨_, _, none⟩)) (wn_none rfl) rfl (rd_assign rfl rfl) ?_
        refine GL_nil ?_
        refine GW_seq ?_
        refine GW_seq ?_
        refine GW_region ?_
        refine GL_rd (v := .pointer (some ⟨_, _, none⟩)) (wn_none rfl) rfl (rd_move rfl rfl) ?_
        refine GL_rd (wn_none rfl) rfl (rd_bin rfl rfl rfl (bo_pnil Try.underlying42)) ?_
        refine GL_nil ?_
        refine GW_false rfl ?_
        refine GW_skip ?_
        refine GW_seq ?_
        refine GW_seq ?_
        refine GW_region ?_
        refine GL_rd (v := .int _ _) (wn_none rfl) rfl (rd_assign rfl rfl) ?_
        refine GL_nil ?_
        refine GW_block ?_
        refine GW_loop ?_
        refine Lp_ind (α := Nat × Value) (fun a f w' => match a with | (i, bvc) => ∃ fz, f = (upd (upd (upd (upd fz 0 (.slice A m c)) 3 (.slice Ab (bytesF fs).length cb)) 8 (.pointer (some ⟨p, 0, none⟩))) 9 (.int .i64 (i : Int))) ∧ Hp w0 [] w' [cells p 126 [bvc, .bool false], .row 5 1 (.slice Ab (bytesF fs).length cb) (bytesF fs).length (bys (bytesF fs))] ∧ (i ≤ m) ∧ (Suf (.slice Ab (bytesF fs).length cb) (bytesF fs) bvc (bytesF (fs.drop i)))) (fun a => match a with | (i, bvc) => m - i) ?_ (0, .slice Ab (bytesF fs).length cb) _ _ ?_
        · rintro ⟨i, bvc⟩ f wz ⟨fz, rfl, hp, hi0, hsufL⟩ ihL1
          refine Lp_round ?_
          refine GW_seq ?_
          refine GW_seq ?_
          refine GW_region ?_
          refine GL_rd (v := .int _ _) (wn_none rfl) rfl (rd_move rfl rfl) ?_
          refine GL_rd (v := .slice _ _ _) (wn_none rfl) rfl (rd_move rfl rfl) ?_
          refine GL_rd (wn_none rfl) rfl (rd_len rfl rfl Try.underlying39) ?_
          refine GL_rd (wn_none rfl) rfl (rd_bin rfl rfl rfl bo_lss) ?_
          refine GL_nil ?_
          refine GW_cond rfl (fun hb7 => ?_) (fun hb7 => ?_)
          · (try simp only [decide_eq_true_eq, decide_eq_false_iff_not, Bool.not_eq_true', Bool.not_eq_false', Bool.not_eq_eq_eq_not, Bool.not_true, Bool.not_false, Int.not_lt, Int.not_le] at hb7)
            obtain ⟨x, hx⟩ : ∃ x, fs[i]? = some x := ⟨_, List.getElem?_eq_getElem (by omega)⟩
            obtain ⟨hxn, hxs⟩ := hok x (List.mem_of_getElem? hx)
            obtain ⟨gA, bA, rfl⟩ := hs.addr (by rw [flat_length FieldM.cells_length]; omega)
            have hk8 := x.k_le
            have hfx := hfit x (List.mem_of_getElem? hx)
            have hdr := bytesF_drop hx
            have hle2 : (x.bytes ++ bytesF (fs.drop (i + 1))).length ≤ (bytesF fs).length := by rw [← hdr]; exact bytesF_drop_le fs i
            rw [hdr] at hsufL
            refine GW_skip ?_
            refine GW_seq ?_
            refine GW_block ?_
            refine GW_seq ?_
            refine GW_region ?_
            refine GL_rd (v := .slice _ _ _) (wn_none rfl) rfl (rd_move rfl rfl) ?_
            refine GL_rd (v := .int _ _) (wn_none rfl) rfl (rd_move rfl rfl) ?_
            refine GL_rd (wn_none rfl) rfl (rd_indexS (j := i) rfl rfl rfl Try.underlying39 ts41 rfl (by omega) _ rfl) ?_
            refine GL_rd (wn_none rfl) rfl (rd_field rfl rfl fa41_1 _ rfl) ?_
            refine GL_rd (wn_none rfl) rfl (rd_load rfl rfl Try.underlying5 rfl ((hs.keep hp.mod).elem FieldM.cells_length i 1 (by decide) hx rfl)) ?_
            refine GL_rd (wn_none rfl) rfl (rd_conv8 .i64 rfl rfl Try.underlying3 Try.underlying5 (by simp)) ?_
            refine GL_rd (wn_none rfl) rfl (rd_bin rfl rfl rfl (bo_rem64 (by omega) (by omega))) ?_
            refine GL_rd (wn_none rfl) rfl (rd_bin rfl rfl rfl (bo_int (bo_add64 (by omega)) x.k_int)) ?_
            refine GL_rd (v := .int _ _) (wn_none rfl) rfl (rd_assign rfl rfl) ?_
            refine GL_nil ?_
            refine GW_seq ?_
            refine GW_drawnK 38 (.one 0 true (.one 1 true (.one 2 true (.one 3 true (.one 4 true (.one 5 true (.one 6 true (.one 7 true (.one 9 true (.one 10 true (.one 11 true (.one 12 true (.one 13 true (.one 8 false (.one 14 true (.one 15 true (.one 16 true (.one 17 true (.one 18 true (.one 19 true (.one 20 true (.one 21 true (.one 22 true (.one 23 true (.one 24 true (.one 25 true (.one 27 true (.one 28 true (.one 29 true (.one 30 true (.one 31 true (.one 32 true (.one 26 false (.one 33 false (.one 34 false (.one 35 true (.one 36 true (.one 37 true .nil)))))))))))))))))))))))))))))))))))))) mixed (by kernel_rfl) hp (fun _ h => h.mods) fun w hp => ?_
            have hpS := hp.mods
            refine GO_rd (v := .slice _ _ _) rfl (wn_none rfl) rfl hpS (fun w hp => (rd_move rfl rfl)) ?_
            refine GO_rd (v := .int _ _) rfl (wn_none rfl) rfl hpS (fun w hp => (rd_move rfl rfl)) ?_
            refine GO_rd rfl (wn_none rfl) rfl hpS (fun w hp => (rd_indexS (j := i) rfl rfl rfl Try.underlying39 ts41 rfl (by omega) _ rfl)) ?_
            refine GO_rd rfl (wn_none rfl) rfl hpS (fun w hp => (rd_field rfl rfl fa41_0 _ rfl)) ?_
            refine GO_rd rfl (wn_none rfl) rfl hpS (fun w hp => (rd_load rfl rfl Try.underlying4 rfl ((hs.keep hp.mod).elem FieldM.cells_length i 0 (by decide) hx rfl))) ?_
            refine GO_rd (v := .bool _) rfl (wn_none rfl) rfl hpS (fun w hp => (rd_move rfl rfl)) ?_
            refine GO_split (t := 97) (b := _) rfl ?_ ?_
            · intro hb8; (try simp only [decide_eq_true_eq, decide_eq_false_iff_not, Bool.not_eq_true', Bool.not_eq_false', Bool.not_eq_eq_eq_not, Bool.not_true, Bool.not_false, Int.not_lt, Int.not_le] at hb8)
              have hbx := hb8
              refine GO_rd (v := .pointer (some ⟨_, _, none⟩)) rfl (wn_on rfl rfl rfl rfl) rfl hpS (fun w hp => (rd_move rfl rfl)) ?_
              refine GO_rd (v := .int _ _) rfl (wn_on rfl rfl rfl rfl) rfl hpS (fun w hp => (rd_move rfl rfl)) ?_
              refine GO_rd (v := .slice _ _ _) rfl (wn_on rfl rfl rfl rfl) rfl hpS (fun w hp => (rd_move rfl rfl)) ?_
              refine GO_rd (v := .int _ _) rfl (wn_on rfl rfl rfl rfl) rfl hpS (fun w hp => (rd_move rfl rfl)) ?_
              refine GO_rd rfl (wn_on rfl rfl rfl rfl) rfl hpS (fun w hp => (rd_indexS (j := i) rfl rfl rfl Try.underlying39 ts41 rfl (by omega) _ rfl)) ?_
              refine GO_rd rfl (wn_on rfl rfl rfl rfl) rfl hpS (fun w hp => (rd_field rfl rfl fa41_3 _ rfl)) ?_
              refine GO_rd rfl (wn_on rfl rfl rfl rfl) rfl hpS (fun w hp => (rd_load rfl rfl Try.underlying9 rfl ((hs.keep hp.mod).elem FieldM.cells_length i 3 (by decide) hx rfl))) ?_
              refine GO_of_GL rfl ?_
              refine GL_call (wn_on rfl rfl rfl rfl) rfl rfl (cur_Text p _ (x.bytes ++ bytesF (fs.drop (i + 1))) (false) ((x.k : Int)) _ (hp.get 0 rfl) (fun w' h => (hsufL w' (Sl.row (hp.stayAt 0 1 rfl rfl (by decide) h)))) (by omega)) rfl ?_
              rintro _ w ⟨bv, hsuf, rfl, hk⟩
              have hp := hp.turnAtMore 0 rfl hk
              rw [(cur_text hfx hbx _).2.2] at hsuf
              rw [(cur_text hfx hbx _).2.1] at hp
              have hpS2 := hp.mods
              refine GL_nil ⟨fun _ => hpS2, ?_⟩
              refine GO_rd rfl (wn_on rfl rfl rfl rfl) rfl hpS2 (fun w hp => (rd_bin rfl rfl rfl bo_sneq)) ?_
              refine GO_rd (v := .bool _) rfl (wn_none rfl) rfl hpS2 (fun w hp => (rd_pickT rfl rfl rfl)) ?_
              refine GO_rd (v := .bool _) rfl (wn_none rfl) rfl hpS2 (fun w hp => (rd_move rfl rfl)) ?_
              refine GO_split (t := 108) (b := _) rfl ?_ ?_
              · intro hb9; (try simp only [decide_eq_true_eq, decide_eq_false_iff_not, Bool.not_eq_true', Bool.not_eq_false', Bool.not_eq_eq_eq_not, Bool.not_true, Bool.not_false, Int.not_lt, Int.not_le] at hb9)
                exact absurd (by rw [(cur_text hfx hbx _).1, ba_eq]) hb9
              · intro hb9; (try simp only [decide_eq_true_eq, decide_eq_false_iff_not, Bool.not_eq_true', Bool.not_eq_false', Bool.not_eq_eq_eq_not, Bool.not_true, Bool.not_false, Int.not_lt, Int.not_le] at hb9)
                refine GO_rd (v := .slice _ _ _) rfl (wn_on rfl rfl rfl rfl) rfl hpS2 (fun w hp => (rd_move rfl rfl)) ?_
                refine GO_rd (v := .int _ _) rfl (wn_on rfl rfl rfl rfl) rfl hpS2 (fun w hp => (rd_move rfl rfl)) ?_
                refine GO_rd rfl (wn_on rfl rfl rfl rfl) rfl hpS2 (fun w hp => (rd_indexS (j := i) rfl rfl rfl Try.underlying39 ts41 rfl (by omega) _ rfl)) ?_
                refine GO_rd rfl (wn_on rfl rfl rfl rfl) rfl hpS2 (fun w hp => (rd_field rfl rfl fa41_0 _ rfl)) ?_
                refine GO_rd rfl (wn_on rfl rfl rfl rfl) rfl hpS2 (fun w hp => (rd_load rfl rfl Try.underlying4 rfl ((hs.keep hp.mod).elem FieldM.cells_length i 0 (by decide) hx rfl))) ?_
                refine GO_rd rfl (wn_on rfl rfl rfl rfl) rfl hpS2 (fun w hp => (rd_not rfl rfl)) ?_
                refine GO_rd (v := .bool _) rfl (wn_on rfl rfl rfl rfl) rfl hpS2 (fun w hp => (rd_move rfl rfl)) ?_
                refine GO_split (t := 115) (b := _) rfl ?_ ?_
                · intro hb10; (try simp only [decide_eq_true_eq, decide_eq_false_iff_not, Bool.not_eq_true', Bool.not_eq_false', Bool.not_eq_eq_eq_not, Bool.not_true, Bool.not_false, Int.not_lt, Int.not_le] at hb10)
                  all_goals exact absurd hb10 (by rw [hbx]; decide)
                · intro hb10; (try simp only [decide_eq_true_eq, decide_eq_false_iff_not, Bool.not_eq_true', Bool.not_eq_false', Bool.not_eq_eq_eq_not, Bool.not_true, Bool.not_false, Int.not_lt, Int.not_le] at hb10)
                  refine GO_pass rfl (nw_off rfl rfl rfl rfl rfl) rfl hpS2 ?_
                  refine GO_pass rfl (nw_off rfl rfl rfl rfl rfl) rfl hpS2 ?_
                  refine GO_pass rfl (nw_off rfl rfl rfl rfl rfl) rfl hpS2 ?_
                  refine GO_pass rfl (nw_off rfl rfl rfl rfl rfl) rfl hpS2 ?_
                  refine GO_pass rfl (nw_off rfl rfl rfl rfl rfl) rfl hpS2 ?_
                  refine GO_pass rfl (nw_off rfl rfl rfl rfl rfl) rfl hpS2 ?_
                  refine GO_pass rfl (nw_off rfl rfl rfl rfl rfl) rfl hpS2 ?_
                  refine GO_pass rfl (nw_off rfl rfl rfl rfl rfl) rfl hpS2 ?_
                  refine GO_of_GL rfl ?_
                  refine GL_pass (nw_off rfl rfl rfl rfl rfl) rfl (GL_nil ⟨fun _ => hpS2, ?_⟩)
                  refine GO_of_GL rfl ?_
                  refine GL_pass (nw_off rfl rfl rfl rfl rfl) rfl (GL_nil ⟨fun _ => hpS2, ?_⟩)
                  refine GO_of_GL rfl ?_
                  refine GL_pass (nw_off rfl rfl rfl rfl rfl) rfl (GL_nil ⟨fun _ => hpS2, ?_⟩)
                  refine GO_pass rfl (nw_off rfl rfl rfl rfl rfl) rfl hpS2 ?_
                  refine GO_rd (v := .bool _) rfl (wn_on rfl rfl rfl rfl) rfl hpS2 (fun w hp => (rd_pickF rfl rfl rfl)) ?_
                  refine GO_rd (v := .bool _) rfl (wn_none rfl) rfl hpS2 (fun w hp => (rd_pickF rfl rfl rfl)) ?_
                  refine GO_nil ?_
                  refine GW_false rfl ?_
                  refine GW_skip ?_
                  refine GW_region ?_
                  refine GL_rd (v := .int _ _) (wn_none rfl) rfl (rd_move rfl rfl) ?_
                  refine GL_rd (wn_none rfl) rfl (rd_bin rfl rfl rfl (bo_add64 (by omega))) ?_
                  refine GL_rd (v := .int _ _) (wn_none rfl) rfl (rd_assign rfl rfl) ?_
                  refine GL_nil ?_
                  exact ihL1 (i + 1, bv) _ _ (by simp only []; omega) ⟨_, slots4 rfl rfl rfl rfl, hp, by omega, hsufL.trans hsuf⟩
            · intro hb8; (try simp only [decide_eq_true_eq, decide_eq_false_iff_not, Bool.not_eq_true', Bool.not_eq_false', Bool.not_eq_eq_eq_not, Bool.not_true, Bool.not_false, Int.not_lt, Int.not_le] at hb8)
              have hbx := hb8
              refine GO_pass rfl (nw_off rfl rfl rfl rfl rfl) rfl hpS ?_
              refine GO_pass rfl (nw_off rfl rfl rfl rfl rfl) rfl hpS ?_
              refine GO_pass rfl (nw_off rfl rfl rfl rfl rfl) rfl hpS ?_
              refine GO_pass rfl (nw_off rfl rfl rfl rfl rfl) rfl hpS ?_
              refine GO_pass rfl (nw_off rfl rfl rfl rfl rfl) rfl hpS ?_
              refine GO_pass rfl (nw_off rfl rfl rfl rfl rfl) rfl hpS ?_
              refine GO_pass rfl (nw_off rfl rfl rfl rfl rfl) rfl hpS ?_
              refine GO_of_GL rfl ?_
              refine GL_pass (nw_off rfl rfl rfl rfl rfl) rfl (GL_nil ⟨fun _ => hpS, ?_⟩)
              refine GO_pass rfl (nw_off rfl rfl rfl rfl rfl) rfl hpS ?_
              refine GO_rd (v := .bool _) rfl (wn_none rfl) rfl hpS (fun w hp => (rd_pickF rfl rfl rfl)) ?_
              refine GO_rd (v := .bool _) rfl (wn_none rfl) rfl hpS (fun w hp => (rd_move rfl rfl)) ?_
              refine GO_rd (v := .slice _ _ _) rfl (wn_on rfl rfl rfl rfl) rfl hpS (fun w hp => (rd_move rfl rfl)) ?_
              refine GO_rd (v := .int _ _) rfl (wn_on rfl rfl rfl rfl) rfl hpS (fun w hp => (rd_move rfl rfl)) ?_
              refine GO_rd rfl (wn_on rfl rfl rfl rfl) rfl hpS (fun w hp => (rd_indexS (j := i) rfl rfl rfl Try.underlying39 ts41 rfl (by omega) _ rfl)) ?_
              refine GO_rd rfl (wn_on rfl rfl rfl rfl) rfl hpS (fun w hp => (rd_field rfl rfl fa41_0 _ rfl)) ?_
              refine GO_rd rfl (wn_on rfl rfl rfl rfl) rfl hpS (fun w hp => (rd_load rfl rfl Try.underlying4 rfl ((hs.keep hp.mod).elem FieldM.cells_length i 0 (by decide) hx rfl))) ?_
              refine GO_rd rfl (wn_on rfl rfl rfl rfl) rfl hpS (fun w hp => (rd_not rfl rfl)) ?_
              refine GO_rd (v := .bool _) rfl (wn_on rfl rfl rfl rfl) rfl hpS (fun w hp => (rd_move rfl rfl)) ?_
              refine GO_split (t := 115) (b := _) rfl ?_ ?_
              · intro hb11; (try simp only [decide_eq_true_eq, decide_eq_false_iff_not, Bool.not_eq_true', Bool.not_eq_false', Bool.not_eq_eq_eq_not, Bool.not_true, Bool.not_false, Int.not_lt, Int.not_le] at hb11)
                refine GO_rd (v := .pointer (some ⟨_, _, none⟩)) rfl (wn_on rfl rfl rfl rfl) rfl hpS (fun w hp => (rd_move rfl rfl)) ?_
                refine GO_rd (v := .int _ _) rfl (wn_on rfl rfl rfl rfl) rfl hpS (fun w hp => (rd_move rfl rfl)) ?_
                refine GO_rd (v := .slice _ _ _) rfl (wn_on rfl rfl rfl rfl) rfl hpS (fun w hp => (rd_move rfl rfl)) ?_
                refine GO_rd (v := .int _ _) rfl (wn_on rfl rfl rfl rfl) rfl hpS (fun w hp => (rd_move rfl rfl)) ?_
                refine GO_rd rfl (wn_on rfl rfl rfl rfl) rfl hpS (fun w hp => (rd_indexS (j := i) rfl rfl rfl Try.underlying39 ts41 rfl (by omega) _ rfl)) ?_
                refine GO_rd rfl (wn_on rfl rfl rfl rfl) rfl hpS (fun w hp => (rd_field rfl rfl fa41_2 _ rfl)) ?_
                refine GO_rd rfl (wn_on rfl rfl rfl rfl) rfl hpS (fun w hp => (rd_load rfl rfl Try.underlying22 rfl ((hs.keep hp.mod).elem FieldM.cells_length i 2 (by decide) hx rfl))) ?_
                refine GO_rd (v := .int _ _) rfl (wn_on rfl rfl rfl rfl) rfl hpS (fun w hp => (rd_move rfl rfl)) ?_
                refine GO_of_GL rfl ?_
                refine GL_call (wn_on rfl rfl rfl rfl) rfl rfl (cur_Num p _ (x.bytes ++ bytesF (fs.drop (i + 1))) (false) ((x.k : Int)) _ (hp.get 0 rfl) (fun w' h => (hsufL w' (Sl.row (hp.stayAt 0 1 rfl rfl (by decide) h)))) (by omega)) rfl ?_
                rintro _ w ⟨bv2, hsuf2, rfl, hk⟩
                have hp := hp.turnAtMore 0 rfl hk
                rw [(cur_num hfx hbx _).2.2] at hsuf2
                rw [(cur_num hfx hbx _).2.1] at hp
                have hpS3 := hp.mods
                refine GL_nil ⟨fun _ => hpS3, ?_⟩
                refine GO_of_GL rfl ?_
                refine GL_call (wn_on rfl rfl rfl rfl) rfl rfl (ref_Put x.k x.n (x.k : Int) _ hxn (by omega) rfl) rfl ?_
                rintro v2 w hk
                have hp := hp.comp hk
                have hpS4 := hp.mods
                refine GL_nil ⟨fun _ => hpS4, ?_⟩
                refine GO_of_GL rfl ?_
                refine GL_call (wn_on rfl rfl rfl rfl) rfl rfl (ref_Get x.k _ x.k _ _ (Sl.row (hp.get 0 rfl)) rfl) rfl ?_
                rintro _ w ⟨rfl, hk⟩
                have hp := hp.comp hk
                have hpS5 := hp.mods
                refine GL_nil ⟨fun _ => hpS5, ?_⟩
                refine GO_rd rfl (wn_on rfl rfl rfl rfl) rfl hpS5 (fun w hp => (rd_bin rfl rfl rfl bo_neq)) ?_
                refine GO_rd (v := .bool _) rfl (wn_on rfl rfl rfl rfl) rfl hpS5 (fun w hp => (rd_pickT rfl rfl rfl)) ?_
                refine GO_rd (v := .bool _) rfl (wn_none rfl) rfl hpS5 (fun w hp => (rd_pickF rfl rfl rfl)) ?_
                refine GO_nil ?_
                refine GW_cond rfl (fun hb12 => ?_) (fun hb12 => ?_)
                · (try simp only [decide_eq_true_eq, decide_eq_false_iff_not, Bool.not_eq_true', Bool.not_eq_false', Bool.not_eq_eq_eq_not, Bool.not_true, Bool.not_false, Int.not_lt, Int.not_le] at hb12)
                  exact absurd (by rw [(cur_num hfx hbx _).1]) hb12
                · (try simp only [decide_eq_true_eq, decide_eq_false_iff_not, Bool.not_eq_true', Bool.not_eq_false', Bool.not_eq_eq_eq_not, Bool.not_true, Bool.not_false, Int.not_lt, Int.not_le] at hb12)
                  refine GW_skip ?_
                  refine GW_region ?_
                  refine GL_rd (v := .int _ _) (wn_none rfl) rfl (rd_move rfl rfl) ?_
                  refine GL_rd (wn_none rfl) rfl (rd_bin rfl rfl rfl (bo_add64 (by omega))) ?_
                  refine GL_rd (v := .int _ _) (wn_none rfl) rfl (rd_assign rfl rfl) ?_
                  refine GL_nil ?_
                  have hp := hp.drop 1
                  exact ihL1 (i + 1, bv2) _ _ (by simp only []; omega) ⟨_, slots4 rfl rfl rfl rfl, hp, by omega, hsufL.trans hsuf2⟩
              · intro hb11; (try simp only [decide_eq_true_eq, decide_eq_false_iff_not, Bool.not_eq_true', Bool.not_eq_false', Bool.not_eq_eq_eq_not, Bool.not_true, Bool.not_false, Int.not_lt, Int.not_le] at hb11)
                all_goals exact absurd hb11 (by rw [hbx]; decide)
          · (try simp only [decide_eq_true_eq, decide_eq_false_iff_not, Bool.not_eq_true', Bool.not_eq_false', Bool.not_eq_eq_eq_not, Bool.not_true, Bool.not_false, Int.not_lt, Int.not_le] at hb7)
            rw [List.drop_of_length_le (by omega)] at hsufL
            have hsufE : Suf (.slice Ab (bytesF fs).length cb) (bytesF fs) bvc [] := hsufL
            refine GW_exit ?_
            refine GW_seq ?_
            refine GW_seq ?_
            refine GW_region ?_
            refine GL_rd (v := .pointer (some ⟨_, _, none⟩)) (wn_none rfl) rfl (rd_move rfl rfl) ?_
            refine GL_call (wn_none rfl) rfl rfl (cur_Rest p _ ([]) (false) _ (hp.get 0 rfl) (fun w' h => (hsufE w' (Sl.row (hp.stayAt 0 1 rfl rfl (by decide) h))))) rfl ?_
            rintro _ w ⟨rfl, hk⟩
            have hp := hp.comp hk
            refine GL_rd (wn_none rfl) rfl (rd_not rfl rfl) ?_
            refine GL_rd (v := .bool _) (wn_none rfl) rfl (rd_move rfl rfl) ?_
            refine GL_split (t := 133) (b := _) rfl ?_ ?_
            · intro hb13; (try simp only [decide_eq_true_eq, decide_eq_false_iff_not, Bool.not_eq_true', Bool.not_eq_false', Bool.not_eq_eq_eq_not, Bool.not_true, Bool.not_false, Int.not_lt, Int.not_le] at hb13)
              all_goals exact absurd hb13 (by decide)
            · intro hb13; (try simp only [decide_eq_true_eq, decide_eq_false_iff_not, Bool.not_eq_true', Bool.not_eq_false', Bool.not_eq_eq_eq_not, Bool.not_true, Bool.not_false, Int.not_lt, Int.not_le] at hb13)
              refine GL_rd (v := .pointer (some ⟨_, _, none⟩)) (wn_on rfl rfl rfl rfl) rfl (rd_move rfl rfl) ?_
              refine GL_call (wn_on rfl rfl rfl rfl) rfl rfl (cur_Right p _ ([]) (false) _ (hp.get 0 rfl) (fun w' h => (hsufE w' (Sl.row (hp.stayAt 0 1 rfl rfl (by decide) h))))) rfl ?_
              rintro _ w ⟨rfl, hk⟩
              have hp := hp.comp hk
              refine GL_rd (wn_on rfl rfl rfl rfl) rfl (rd_not rfl rfl) ?_
              refine GL_rd (v := .bool _) (wn_none rfl) rfl (rd_pickF rfl rfl rfl) ?_
              refine GL_rd (v := .bool _) (wn_none rfl) rfl (rd_move rfl rfl) ?_
              refine GL_split (t := 138) (b := _) rfl ?_ ?_
              · intro hb14; (try simp only [decide_eq_true_eq, decide_eq_false_iff_not, Bool.not_eq_true', Bool.not_eq_false', Bool.not_eq_eq_eq_not, Bool.not_true, Bool.not_false, Int.not_lt, Int.not_le] at hb14)
                all_goals exact absurd hb14 (by decide)
              · intro hb14; (try simp only [decide_eq_true_eq, decide_eq_false_iff_not, Bool.not_eq_true', Bool.not_eq_false', Bool.not_eq_eq_eq_not, Bool.not_true, Bool.not_false, Int.not_lt, Int.not_le] at hb14)
                refine GL_rd (v := .slice _ _ _) (wn_on rfl rfl rfl rfl) rfl (rd_move rfl rfl) ?_
                refine GL_rd (wn_on rfl rfl rfl rfl) rfl (rd_len rfl rfl Try.underlying23) ?_
                refine GL_rd (wn_on rfl rfl rfl rfl) rfl (rd_bin rfl rfl rfl bo_eql) ?_
                refine GL_rd (v := .bool _) (wn_none rfl) rfl (rd_pickF rfl rfl rfl) ?_
                refine GL_nil ?_
                refine GW_cond rfl (fun hb15 => ?_) (fun hb15 => ?_)
                · (try simp only [decide_eq_true_eq, decide_eq_false_iff_not, Bool.not_eq_true', Bool.not_eq_false', Bool.not_eq_eq_eq_not, Bool.not_true, Bool.not_false, Int.not_lt, Int.not_le] at hb15)
                  refine GW_seq ?_
                  refine GW_region ?_
                  refine GL_rd (v := .slice _ _ _) (wn_none rfl) rfl (rd_move rfl rfl) ?_
                  refine GL_rd (wn_none rfl) rfl (rd_len rfl rfl Try.underlying23) ?_
                  refine GL_rd (wn_none rfl) rfl (rd_bin rfl rfl rfl bo_eql) ?_
                  refine GL_rd (v := .bool _) (wn_none rfl) rfl (rd_move rfl rfl) ?_
                  refine GL_split (t := 146) (b := _) rfl ?_ ?_
                  · intro hb16; (try simp only [decide_eq_true_eq, decide_eq_false_iff_not, Bool.not_eq_true', Bool.not_eq_false', Bool.not_eq_eq_eq_not, Bool.not_true, Bool.not_false, Int.not_lt, Int.not_le] at hb16)
                    refine GL_call (wn_on rfl rfl rfl rfl) rfl rfl (word_works _) rfl ?_
                    rintro _ w ⟨rfl, hk⟩
                    have hp := hp.comp hk
                    refine GL_rd (v := .bool _) (wn_none rfl) rfl (rd_pickT rfl rfl rfl) ?_
                    refine GL_rd (v := .bool _) (wn_none rfl) rfl (rd_assign rfl rfl) ?_
                    refine GL_nil ?_
                    refine GW_ret ?_
                    exact ⟨_, res1 Try.results5 (rv_tmp (v := .bool _) rfl rfl), rfl, hp.mods⟩
                  · intro hb16; (try simp only [decide_eq_true_eq, decide_eq_false_iff_not, Bool.not_eq_true', Bool.not_eq_false', Bool.not_eq_eq_eq_not, Bool.not_true, Bool.not_false, Int.not_lt, Int.not_le] at hb16)
                    all_goals omega
                · (try simp only [decide_eq_true_eq, decide_eq_false_iff_not, Bool.not_eq_true', Bool.not_eq_false', Bool.not_eq_eq_eq_not, Bool.not_true, Bool.not_false, Int.not_lt, Int.not_le] at hb15)
                  refine GW_skip ?_
                  refine GW_seq ?_
                  refine GW_region ?_
                  refine GL_rd (v := .slice _ _ _) (wn_none rfl) rfl (rd_move rfl rfl) ?_
                  refine GL_rd (v := .slice _ _ _) (wn_none rfl) rfl (rd_move rfl rfl) ?_
                  refine GL_rd (wn_none rfl) rfl (rd_len rfl rfl Try.underlying23) ?_
                  refine GL_rd (wn_none rfl) rfl (rd_bin rfl rfl rfl (bo_sub64 (by omega))) ?_
                  refine GL_rd (wn_none rfl) rfl (rd_sliceS (lo := 0) (hi := ((bytesF fs).length - 1)) rfl rfl Try.underlying23 ts5 at_none (at_some rfl (by omega)) (by omega) (by have := (Sl.cap (Sl.row (hp.get 1 rfl))).1; omega)) ?_
                  refine GL_call (wn_none rfl) rfl rfl (word_From _ _ _ _) rfl ?_
                  rintro _ w ⟨p2, rfl, hk⟩
                  have hp := hp.comp hk
                  refine GL_rd (v := .pointer (some ⟨_, _, none⟩)) (wn_none rfl) rfl (rd_assign rfl rfl) ?_
                  refine GL_nil ?_
                  refine GW_seq ?_
                  refine GW_seq ?_
                  refine GW_region ?_
                  refine GL_rd (v := .pointer (some ⟨_, _, none⟩)) (wn_none rfl) rfl (rd_move rfl rfl) ?_
                  refine GL_rd (wn_none rfl) rfl (rd_bin rfl rfl rfl (bo_pnil Try.underlying42)) ?_
                  refine GL_nil ?_
                  refine GW_false rfl ?_
                  refine GW_skip ?_
                  refine GW_seq ?_
                  have hl3 : (((bytesF fs).drop 0).take ((bytesF fs).length - 1 - 0)).length ≤ (bytesF fs).length := by rw [List.length_take, List.length_drop]; omega
                  have hno2 : curOk false (((bytesF fs).drop 0).take ((bytesF fs).length - 1 - 0)) ((bytesF fs).length : Int) = false := by
                    simp only [curOk, Bool.not_false, Bool.true_and, decide_eq_false_iff_not, List.length_take, List.length_drop]; omega
                  refine GW_region ?_
                  refine GL_rd (v := .pointer (some ⟨_, _, none⟩)) (wn_none rfl) rfl (rd_move rfl rfl) ?_
                  refine GL_rd (v := .slice _ _ _) (wn_none rfl) rfl (rd_move rfl rfl) ?_
                  refine GL_rd (wn_none rfl) rfl (rd_len rfl rfl Try.underlying23) ?_
                  refine GL_call (wn_none rfl) rfl rfl (cur_Bytes p2 _ (((bytesF fs).drop 0).take ((bytesF fs).length - 1 - 0)) (false) _ _ (hp.get 0 rfl) (fun w' h => (Sl.cutL (Sl.row (hp.stayAt 0 2 rfl rfl (by decide) h)) 0 ((bytesF fs).length - 1) (by omega) (by omega))) (by omega)) rfl ?_
                  rintro v7 w ⟨bv3, hsuf3, hk⟩
                  have hp := hp.turnAtMore 0 rfl hk
                  obtain ⟨Av7, cv7, rfl⟩ := row_shape (hp.get 0 rfl)
                  rw [hno2, Bool.not_false] at hp
                  rw [(cur_no hno2).2] at hsuf3
                  refine GL_nil ?_
                  refine GW_seq ?_
                  refine GW_region ?_
                  refine GL_rd (v := .pointer (some ⟨_, _, none⟩)) (wn_none rfl) rfl (rd_move rfl rfl) ?_
                  refine GL_call (wn_none rfl) rfl rfl (cur_Right p2 _ (((bytesF fs).drop 0).take ((bytesF fs).length - 1 - 0)) (true) _ (hp.get 1 rfl) (fun w' h => (hsuf3 w' (Sl.cutL (Sl.row (hp.stayAt 1 3 rfl rfl (by decide) h)) 0 ((bytesF fs).length - 1) (by omega) (by omega))))) rfl ?_
                  rintro _ w ⟨rfl, hk⟩
                  have hp := hp.comp hk
                  refine GL_rd (wn_none rfl) rfl (rd_not rfl rfl) ?_
                  refine GL_rd (v := .bool _) (wn_none rfl) rfl (rd_move rfl rfl) ?_
                  refine GL_split (t := 164) (b := _) rfl ?_ ?_
                  · intro hb17; (try simp only [decide_eq_true_eq, decide_eq_false_iff_not, Bool.not_eq_true', Bool.not_eq_false', Bool.not_eq_eq_eq_not, Bool.not_true, Bool.not_false, Int.not_lt, Int.not_le] at hb17)
                    refine GL_rd (v := .pointer (some ⟨_, _, none⟩)) (wn_on rfl rfl rfl rfl) rfl (rd_move rfl rfl) ?_
                    refine GL_call (wn_on rfl rfl rfl rfl) rfl rfl (cur_Rest p2 _ (((bytesF fs).drop 0).take ((bytesF fs).length - 1 - 0)) (true) _ (hp.get 1 rfl) (fun w' h => (hsuf3 w' (Sl.cutL (Sl.row (hp.stayAt 1 3 rfl rfl (by decide) h)) 0 ((bytesF fs).length - 1) (by omega) (by omega))))) rfl ?_
                    rintro _ w ⟨rfl, hk⟩
                    have hp := hp.comp hk
                    refine GL_rd (wn_on rfl rfl rfl rfl) rfl (rd_not rfl rfl) ?_
                    refine GL_rd (v := .bool _) (wn_none rfl) rfl (rd_pickT rfl rfl rfl) ?_
                    refine GL_rd (v := .bool _) (wn_none rfl) rfl (rd_move rfl rfl) ?_
                    refine GL_split (t := 169) (b := _) rfl ?_ ?_
                    · intro hb18; (try simp only [decide_eq_true_eq, decide_eq_false_iff_not, Bool.not_eq_true', Bool.not_eq_false', Bool.not_eq_eq_eq_not, Bool.not_true, Bool.not_false, Int.not_lt, Int.not_le] at hb18)
                      refine GL_call (wn_on rfl rfl rfl rfl) rfl rfl (word_works _) rfl ?_
                      rintro _ w ⟨rfl, hk⟩
                      have hp := hp.comp hk
                      refine GL_rd (v := .bool _) (wn_none rfl) rfl (rd_pickT rfl rfl rfl) ?_
                      refine GL_rd (v := .bool _) (wn_none rfl) rfl (rd_assign rfl rfl) ?_
                      refine GL_nil ?_
                      refine GW_ret ?_
                      exact ⟨_, res1 Try.results5 (rv_tmp (v := .bool _) rfl rfl), rfl, hp.mods⟩
                    · intro hb18; (try simp only [decide_eq_true_eq, decide_eq_false_iff_not, Bool.not_eq_true', Bool.not_eq_false', Bool.not_eq_eq_eq_not, Bool.not_true, Bool.not_false, Int.not_lt, Int.not_le] at hb18)
                      all_goals exact absurd hb18 (by simp)
                  · intro hb17; (try simp only [decide_eq_true_eq, decide_eq_false_iff_not, Bool.not_eq_true', Bool.not_eq_false', Bool.not_eq_eq_eq_not, Bool.not_true, Bool.not_false, Int.not_lt, Int.not_le] at hb17)
                    all_goals exact absurd hb17 (by decide)
        · refine ⟨_, slots4 rfl rfl rfl rfl, hp, Nat.zero_le _, Suf.refl _ _⟩
    · have hp := hp.nilRow 5 1
      refine ⟨_, slots3 rfl rfl rfl, hp, Nat.zero_le _, by simp, by simp [bytesF]⟩

end Go.Proofs.Ytlfepdlbklmmlaa
