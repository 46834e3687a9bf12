/- Walks of functions of the program. -/
import Derived.Test.YtpagpmioopaciaaGreatPFSeal
import Derived.Test.YtpagpmioopaciaaGreatPFAud
import Derived.Test.YtpagpmioopaciaaGreatPFBin
import Derived.Test.YtpagpmioopaciaaGreatPBunQ
set_option linter.unusedVariables false
set_option linter.unusedSimpArgs false
namespace Go.Proofs.YtpagpmioopaciaaGreat
open Go.Mo Go.RowKit
theorem ref_tCheck (sv : Value) (l : List UInt8) (w0 : World) (hs : Sl w0 sv 1 l.length (bys l)) : Does Tryz.prog 34 #[sv] w0 fun v w' => v = .int .i64 (txK l.length) ∧ Hp w0 [] w' [] := by
 obtain ⟨A, c, rfl⟩ := sl_shape hs
 refine does_of (l := [.slice A l.length c]) Tryz.func34 (by kernel_rfl) rfl Tryz.ntmps34 rfl rfl (by kernel_rfl) ?_
 have hp := Hp.refl w0 []
 refine GW_seq ?_
 refine GW_region ?_
 refine GL_rd (v := .int _ _) (wn_none rfl) rfl (rd_assign rfl rfl) ?_
 refine GL_nil ?_
 refine GW_seq ?_
 refine GW_seq ?_
 refine GW_region ?_
 refine GL_rd (v := .slice _ _ _) (wn_none rfl) rfl (rd_move rfl rfl) ?_
 refine GL_rd (wn_none rfl) rfl (rd_len rfl rfl Tryz.underlying35) ?_
 refine GL_rd (wn_none rfl) rfl (rd_bin rfl rfl rfl bo_eql) ?_
 refine GL_nil ?_
 refine GW_cond rfl (fun hb => ?_) (fun hb => ?_)
 ·(try simp only [decide_eq_true_eq, decide_eq_false_iff_not, Bool.not_eq_true', Bool.not_eq_false', Bool.not_eq_eq_eq_not, Bool.not_true, Bool.not_false, Int.not_lt, Int.not_le] at hb)
  refine GW_seq ?_
  refine GW_region ?_
  refine GL_rd (v := .int _ _) (wn_none rfl) rfl (rd_assign rfl rfl) ?_
  refine GL_nil ?_
  refine GW_ret ?_
  have e : txK l.length = 1 := by rw [txK, if_pos (by omega)]
  exact ⟨_, res1 Tryz.results34 (rv_tmp (v := .int _ _) rfl rfl), by rw [e], hp.mods⟩
 ·(try simp only [decide_eq_true_eq, decide_eq_false_iff_not, Bool.not_eq_true', Bool.not_eq_false', Bool.not_eq_eq_eq_not, Bool.not_true, Bool.not_false, Int.not_lt, Int.not_le] at hb)
  refine GW_skip ?_
  refine GW_seq ?_
  refine GW_seq ?_
  refine GW_region ?_
  refine GL_rd (v := .slice _ _ _) (wn_none rfl) rfl (rd_move rfl rfl) ?_
  refine GL_rd (wn_none rfl) rfl (rd_len rfl rfl Tryz.underlying35) ?_
  refine GL_rd (wn_none rfl) rfl (rd_bin rfl rfl rfl bo_gtr) ?_
  refine GL_nil ?_
  refine GW_cond rfl (fun hb2 => ?_) (fun hb2 => ?_)
  ·(try simp only [decide_eq_true_eq, decide_eq_false_iff_not, Bool.not_eq_true', Bool.not_eq_false', Bool.not_eq_eq_eq_not, Bool.not_true, Bool.not_false, Int.not_lt, Int.not_le] at hb2)
   refine GW_seq ?_
   refine GW_region ?_
   refine GL_rd (v := .int _ _) (wn_none rfl) rfl (rd_assign rfl rfl) ?_
   refine GL_nil ?_
   refine GW_ret ?_
   have e : txK l.length = 15 := by rw [txK, if_neg (by omega), if_pos (by omega)]
   exact ⟨_, res1 Tryz.results34 (rv_tmp (v := .int _ _) rfl rfl), by rw [e], hp.mods⟩
  ·(try simp only [decide_eq_true_eq, decide_eq_false_iff_not, Bool.not_eq_true', Bool.not_eq_false', Bool.not_eq_eq_eq_not, Bool.not_true, Bool.not_false, Int.not_lt, Int.not_le] at hb2)
   refine GW_skip ?_
   refine GW_seq ?_
   refine GW_region ?_
   refine GL_rd (v := .int _ _) (wn_none rfl) rfl (rd_assign rfl rfl) ?_
   refine GL_nil ?_
   refine GW_ret ?_
   have e : txK l.length = 0 := by rw [txK, if_neg (by omega), if_neg (by omega)]
   exact ⟨_, res1 Tryz.results34 (rv_tmp (v := .int _ _) rfl rfl), by rw [e], hp.mods⟩
theorem ref_Split : ∀ (n : Nat) (sv : Value) (l : List UInt8) (wb w0 : World) (hm0 : Mod [] wb w0) (hs : Sl wb sv 1 l.length (bys l)) (hn : l.length = n) (hb : l.length ≤ 1048576), Does Tryz.prog 93 #[sv] w0 fun v w' => ∃ Lc : List (Value × List UInt8), Lc.map Prod.snd = spL l ∧ (∀ x ∈ Lc, Sl wb x.1 1 x.2.length (bys x.2)) ∧ Hp w0 [] w' [.row 35 1 v (Lc).length ((Lc).map Prod.fst)] := by
 intro n
 induction n using Nat.strongRecOn with
 | _ n ih =>
  intro sv l wb w0 hm0 hs hn hb
  obtain ⟨A, c, rfl⟩ := sl_shape hs
  refine does_of (l := [.slice A l.length c]) Tryz.func93 (by kernel_rfl) rfl Tryz.ntmps93 rfl rfl (by kernel_rfl) ?_
  have hp := Hp.refl w0 []
  refine GW_seq ?_
  refine GW_region ?_
  refine GL_rd (v := .slice _ _ _) (wn_none rfl) rfl (rd_assign rfl rfl) ?_
  refine GL_nil ?_
  refine GW_seq ?_
  refine GW_seq ?_
  refine GW_region ?_
  refine GL_rd (v := .slice _ _ _) (wn_none rfl) rfl (rd_move rfl rfl) ?_
  refine GL_rd (wn_none rfl) rfl (rd_len rfl rfl Tryz.underlying35) ?_
  refine GL_rd (wn_none rfl) rfl (rd_bin rfl rfl rfl bo_eql) ?_
  refine GL_nil ?_
  refine GW_cond rfl (fun hb => ?_) (fun hb => ?_)
  ·(try simp only [decide_eq_true_eq, decide_eq_false_iff_not, Bool.not_eq_true', Bool.not_eq_false', Bool.not_eq_eq_eq_not, Bool.not_true, Bool.not_false, Int.not_lt, Int.not_le] at hb)
   refine GW_seq ?_
   refine GW_region ?_
   refine GL_rd (v := .slice _ _ _) (wn_none rfl) rfl (rd_assign rfl rfl) ?_
   refine GL_nil ?_
   refine GW_ret ?_
   exact ⟨_, res1 Tryz.results93 (rv_tmp (v := .slice _ _ _) rfl rfl), [], (spL_nil (by omega)).symm, fun x hx => (by cases hx), hp.nilRow 35 1⟩
  ·(try simp only [decide_eq_true_eq, decide_eq_false_iff_not, Bool.not_eq_true', Bool.not_eq_false', Bool.not_eq_eq_eq_not, Bool.not_true, Bool.not_false, Int.not_lt, Int.not_le] at hb)
   refine GW_skip ?_
   refine GW_seq ?_
   refine GW_seq ?_
   refine GW_region ?_
   refine GL_rd (v := .slice _ _ _) (wn_none rfl) rfl (rd_move rfl rfl) ?_
   refine GL_rd (wn_none rfl) rfl (rd_len rfl rfl Tryz.underlying35) ?_
   refine GL_rd (wn_none rfl) rfl (rd_bin rfl rfl rfl bo_leq) ?_
   refine GL_nil ?_
   refine GW_cond rfl (fun hb2 => ?_) (fun hb2 => ?_)
   ·(try simp only [decide_eq_true_eq, decide_eq_false_iff_not, Bool.not_eq_true', Bool.not_eq_false', Bool.not_eq_eq_eq_not, Bool.not_true, Bool.not_false, Int.not_lt, Int.not_le] at hb2)
    refine GW_seq ?_
    refine GW_region ?_
    refine GL_rd (v := .slice _ _ _) (wn_none rfl) rfl (rd_move rfl rfl) ?_
    refine GL_lit (L := [.slice A l.length c]) (wn_none rfl) rfl rfl Tryz.underlying22 ts35 tz35 rfl (by kernel_rfl) rfl rfl hp ?_
    intro g w hp
    refine GL_rd (v := .slice _ _ _) (wn_none rfl) rfl (rd_assign rfl rfl) ?_
    refine GL_nil ?_
    refine GW_ret ?_
    exact ⟨_, res1 Tryz.results93 (rv_tmp (v := .slice _ _ _) rfl rfl), [(.slice A l.length c, l)], (show [l] = spL l from (spL_small (by omega) (by omega)).symm), fun x hx => (by rw [List.mem_singleton.1 hx]; exact hs), hp⟩
   ·(try simp only [decide_eq_true_eq, decide_eq_false_iff_not, Bool.not_eq_true', Bool.not_eq_false', Bool.not_eq_eq_eq_not, Bool.not_true, Bool.not_false, Int.not_lt, Int.not_le] at hb2)
    obtain ⟨A2, c2, hA2, hc2, hs2⟩ := hs.subB 0 256 (by omega) (by omega)
    obtain ⟨A3, c3, hA3, hc3, hs3⟩ := hs.subB 256 l.length (by omega) (Nat.le_refl _)
    have hd : (l.drop 256).length = l.length - 256 := List.length_drop
    rw [List.take_of_length_le (by omega), ← hd] at hs3
    refine GW_skip ?_
    refine GW_seq ?_
    refine GW_region ?_
    refine GL_rd (v := .slice _ _ _) (wn_none rfl) rfl (rd_move rfl rfl) ?_
    refine GL_rd (wn_none rfl) rfl (rd_sliceE (lo := 0) (hi := 256) rfl rfl Tryz.underlying35 ts5 at_none (at_some rfl rfl) (by omega) (by have := (Sl.cap hs).1; omega) hA2 rfl hc2) ?_
    refine GL_lit (L := [.slice A2 (256 - 0) c2]) (wn_none rfl) rfl rfl Tryz.underlying22 ts35 tz35 rfl (by kernel_rfl) rfl rfl hp ?_
    intro g2 w hp
    refine GL_rd (v := .slice _ _ _) (wn_none rfl) rfl (rd_assign rfl rfl) ?_
    refine GL_nil ?_
    refine GW_seq ?_
    refine GW_region ?_
    refine GL_rd (v := .slice _ _ _) (wn_none rfl) rfl (rd_move rfl rfl) ?_
    refine GL_rd (v := .slice _ _ _) (wn_none rfl) rfl (rd_move rfl rfl) ?_
    refine GL_rd (wn_none rfl) rfl (rd_sliceE (lo := 256) (hi := l.length) rfl rfl Tryz.underlying35 ts5 (at_some rfl rfl) to_none (by omega) (by have := (Sl.cap hs).1; omega) hA3 hd.symm hc3) ?_
    refine GL_call (wn_none rfl) rfl rfl (ih (l.drop 256).length (by omega) _ (l.drop 256) wb _ (hm0.trans hp.mod (by simp)) hs3 rfl (by omega)) rfl ?_
    rintro v3 w ⟨Lc, hLc, hLs, hk⟩
    have hp := hp.comp hk
    have hll : Lc.length = cntC (l.drop 256).length := by rw [← spL_len, ← hLc, List.length_map]
    have hcn : cntC (l.drop 256).length ≤ 1048576 := by unfold cntC; omega
    refine GL_append (i := 1) (wn_none rfl) rfl rfl rfl rfl Tryz.underlying22 ti35 rfl (by decide) hp rfl (Sl.row (hp.get 0 rfl)) (fst_one hLs) (by omega) (by omega) ?_
    intro v w hp
    refine GL_rd (v := v) (wn_none rfl) rfl (rd_assign rfl rfl) ?_
    refine GL_nil ?_
    refine GW_ret ?_
    refine ⟨_, res1 Tryz.results93 (rv_tmp (v := v) rfl rfl), ((Value.slice A2 (256 - 0) c2, l.take 256) :: Lc), by rw [List.map_cons, hLc, spL_big (l := l) (by omega)], fun x hx => ?_, ?_⟩
    · rcases List.mem_cons.1 hx with rfl | hx
      · show Sl wb (.slice A2 (256 - 0) c2) 1 (l.take 256).length (bys (l.take 256))
        rw [show (l.take 256).length = 256 - 0 by rw [List.length_take]; omega]
        rw [List.drop_zero] at hs2
        exact hs2
      · exact hLs x hx
    · have hp := ((hp.front 1 rfl).take 1)
      exact hp.cast (by rw [List.length_cons, Nat.add_comm]; rfl)
theorem ref_cSaid (sv : Value) (l : List UInt8) (w0 : World) (hs : Sl w0 sv 1 l.length (bys l)) (h0 : 0 < l.length) (hb : l.length ≤ 1048576) : Does Tryz.prog 108 #[sv] w0 fun v w' => Hp w0 [] w' [.row 5 1 v (chunkW ++ l).length (bys (chunkW ++ l))] := by
 obtain ⟨A, c, rfl⟩ := sl_shape hs
 refine does_of (l := [.slice A l.length c]) Tryz.func108 (by kernel_rfl) rfl Tryz.ntmps108 rfl rfl (by kernel_rfl) ?_
 have hp := Hp.refl w0 []
 refine GW_seq ?_
 refine GW_region ?_
 refine GL_rd (v := .slice _ _ _) (wn_none rfl) rfl (rd_assign rfl rfl) ?_
 refine GL_nil ?_
 refine GW_seq ?_
 refine GW_region ?_
 refine GL_lit (L := (bys chunkW)) (wn_none rfl) rfl rfl Tryz.underlying35 ts5 tz5 rfl (by kernel_rfl) rfl rfl hp ?_
 intro g w hp
 refine GL_convB (i := 0) (wn_none rfl) rfl rfl rfl Tryz.underlying35 Tryz.underlying5 hp rfl ?_
 intro w hp
 refine GL_rd (v := .slice _ _ _) (wn_none rfl) rfl (rd_assign rfl rfl) ?_
 refine GL_nil ?_
 refine GW_seq ?_
 refine GW_region ?_
 refine GL_rd (v := .slice _ _ _) (wn_none rfl) rfl (rd_move rfl rfl) ?_
 refine GL_rd (v := .slice _ _ _) (wn_none rfl) rfl (rd_move rfl rfl) ?_
 refine GL_appendFull (wn_none rfl) rfl rfl rfl rfl Tryz.underlying35 ti5 rfl (by decide) hp (Sl.blk (hp.get 0 rfl) 1 _ rfl (by simp [maxLen])) (hs.keep hp.mod) (by omega) (by decide) (by omega) (by omega) (by omega) ?_
 intro v w hp
 rw [← bys_append] at hp
 refine GL_rd (v := v) (wn_none rfl) rfl (rd_assign rfl rfl) ?_
 refine GL_nil ?_
 refine GW_ret ?_
 have hp := ((hp.front 0 rfl).take 1)
 have en := row_n (hp.get 0 rfl)
 rw [en] at hp
 exact ⟨_, res1 Tryz.results108 (rv_tmp (v := v) rfl rfl), hp⟩
theorem ref_cAdr (sv : Value) (l : List UInt8) (w0 : World) (hs : Sl w0 sv 1 l.length (bys l)) (h0 : 0 < l.length) (hb : l.length ≤ 1048576) : Does Tryz.prog 94 #[sv] w0 fun v w' => v = .agg ⟨bys (chSum l).1⟩ ∧ Hp w0 [] w' [] := by
 obtain ⟨A, c, rfl⟩ := sl_shape hs
 have hwl : (chunkW ++ l).length = 5 + l.length := by rw [List.length_append]; rfl
 refine does_of (l := [.slice A l.length c]) Tryz.func94 (by kernel_rfl) rfl Tryz.ntmps94 rfl rfl (by kernel_rfl) ?_
 have hp := Hp.refl w0 []
 refine GW_seq ?_
 refine GW_region ?_
 refine GL_alloc (wn_none rfl) rfl rfl tz30 rfl hp ?_
 intro g w hp
 refine GL_nil ?_
 refine GW_seq ?_
 refine GW_region ?_
 refine GL_rd (v := .slice _ _ _) (wn_none rfl) rfl (rd_move rfl rfl) ?_
 refine GL_call (wn_none rfl) rfl rfl (ref_cSaid _ l _ (hs.keep hp.mod) h0 hb) rfl ?_
 intro vs w hk
 have hp := hp.comp hk
 refine GL_call (wn_none rfl) rfl rfl (ref_Sum _ _ (chunkW ++ l) _ (Sl.row (hp.get 0 rfl)) (by omega)) rfl ?_
 rintro _ w ⟨rfl, hk⟩
 have hp := hp.comp hk
 refine GL_store (i := 1) (wn_none rfl) rfl rfl rfl rfl ts30 rfl (by rw [bys_length]; exact (chSum l).2) (bys_one _) hp rfl (Nat.le_of_ble_eq_true rfl) (splice_all _ _ (by rw [bys_length]; exact (chSum l).2.trans rfl)) ?_
 intro w hp
 refine GL_nil ?_
 refine GW_ret ?_
 exact ⟨_, res1 Tryz.results94 (rv_cell rfl rfl Tryz.underlying30 rfl ts30 (by rw [bys_length]; exact (chSum l).2) (hp.get 1 rfl)), rfl, hp.mods⟩
set_option maxHeartbeats 1000000 in
theorem ref_Words (sv : Value) (l : List UInt8) (w0 : World) (hs : Sl w0 sv 1 l.length (bys l)) (hb : l.length ≤ 65536) : Does Tryz.prog 65 #[sv] w0 fun v w' => Hp w0 [] w' [.row 5 1 v (txSaid l.length (adrsC l)).length (bys (txSaid l.length (adrsC l)))] := by
 obtain ⟨A, c, rfl⟩ := sl_shape hs
 have hcl : cntC l.length ≤ 65536 := by unfold cntC; omega
 have hal := adrsC_len l
 refine does_of (l := [.slice A l.length c]) Tryz.func65 (by kernel_rfl) rfl Tryz.ntmps65 rfl rfl (by kernel_rfl) ?_
 have hp := Hp.refl w0 []
 refine GW_seq ?_
 refine GW_region ?_
 refine GL_rd (v := .slice _ _ _) (wn_none rfl) rfl (rd_assign rfl rfl) ?_
 refine GL_nil ?_
 refine GW_seq ?_
 refine GW_region ?_
 refine GL_lit (L := (bys txtW)) (wn_none rfl) rfl rfl Tryz.underlying35 ts5 tz5 rfl (by kernel_rfl) rfl rfl hp ?_
 intro g w hp
 refine GL_convB (i := 0) (wn_none rfl) rfl rfl rfl Tryz.underlying35 Tryz.underlying5 hp rfl ?_
 intro w hp
 refine GL_rd (v := .slice _ _ _) (wn_none rfl) rfl (rd_assign rfl rfl) ?_
 refine GL_nil ?_
 refine GW_seq ?_
 refine GW_region ?_
 refine GL_rd (v := .slice _ _ _) (wn_none rfl) rfl (rd_move rfl rfl) ?_
 refine GL_rd (v := .slice _ _ _) (wn_none rfl) rfl (rd_move rfl rfl) ?_
 refine GL_rd (wn_none rfl) rfl (rd_len rfl rfl Tryz.underlying35) ?_
 refine GL_rd (wn_none rfl) rfl (rd_convE (q := (l.length : Int)) rfl rfl Tryz.underlying62 Tryz.underlying3 (by simp) (IntWalk.u64_in _ (by omega))) ?_
 refine GL_call (wn_none rfl) rfl rfl (ref_Put 4 l.length 4 _ (by omega) (by decide) rfl) rfl ?_
 intro q w hk
 have hp := hp.comp hk
 refine GL_appendFull (wn_none rfl) rfl rfl rfl rfl Tryz.underlying35 ti5 rfl (by decide) hp (Sl.blk (hp.get 1 rfl) 1 _ rfl (by simp [maxLen])) (Sl.row (hp.get 0 rfl)) (by omega) (by decide) (by omega) (by omega) (by omega) ?_
 intro v w hp
 rw [← bys_append] at hp
 refine GL_rd (v := v) (wn_none rfl) rfl (rd_assign rfl rfl) ?_
 refine GL_nil ?_
 refine GW_seq ?_
 refine GW_region ?_
 refine GL_rd (v := .slice _ _ _) (wn_none rfl) rfl (rd_move rfl rfl) ?_
 refine GL_call (wn_none rfl) rfl rfl (ref_Split l.length _ l w0 _ hp.mod hs rfl (by omega)) rfl ?_
 rintro v4 w ⟨Lc, hLc, hLs, hk⟩
 have hp := hp.comp hk
 obtain ⟨A4, c4, rfl⟩ := row_shape (hp.get 0 rfl)
 have hll : Lc.length = cntC l.length := by rw [← spL_len, ← hLc, List.length_map]
 refine GL_rd (v := .slice _ _ _) (wn_none rfl) rfl (rd_assign rfl rfl) ?_
 refine GL_nil ?_
 refine GW_seq ?_
 refine GW_seq ?_
 refine GW_region ?_
 refine GL_rd (v := .int _ _) (wn_none rfl) rfl (rd_assign rfl rfl) ?_
 refine GL_nil ?_
 refine GW_block ?_
 refine GW_loop ?_
 refine Lp_ind (α := Nat × Nat × Value × Option Addr) (fun a_0 f_0 w' => match a_0 with | (i, n, v, A4) => ∃ fz, f_0 = (upd (upd (upd fz 3 (v)) 4 (.slice A4 Lc.length c4)) 5 (.int .i64 (i : Int))) ∧ Hp w0 [] w' [.row 5 1 v n (bys ((txtW ++ putL l.length 4) ++ laidA ((adrsC l).take i))), .row 35 1 (.slice A4 Lc.length c4) Lc.length (Lc.map Prod.fst)] ∧ (i ≤ Lc.length) ∧ (n = 8 + 32 * i)) (fun a_0 => match a_0 with | (i, n, v, A4) => Lc.length - i) ?_ (0, 4 + 4, v, A4) _ _ ?_
 ·rintro ⟨i, n, v, A4⟩ f wz ⟨fz, rfl, hp, hi0, hn⟩ ihL0
  refine Lp_round ?_
  refine GW_seq ?_
  refine GW_seq ?_
  refine GW_region ?_
  refine GL_rd (v := .int _ _) (wn_none rfl) rfl (rd_move rfl rfl) ?_
  refine GL_rd (v := .slice _ _ _) (wn_none rfl) rfl (rd_move rfl rfl) ?_
  refine GL_rd (wn_none rfl) rfl (rd_len rfl rfl Tryz.underlying22) ?_
  refine GL_rd (wn_none rfl) rfl (rd_bin rfl rfl rfl bo_lss) ?_
  refine GL_nil ?_
  refine GW_cond rfl (fun hb => ?_) (fun hb => ?_)
  ·(try simp only [decide_eq_true_eq, decide_eq_false_iff_not, Bool.not_eq_true', Bool.not_eq_false', Bool.not_eq_eq_eq_not, Bool.not_true, Bool.not_false, Int.not_lt, Int.not_le] at hb)
   obtain ⟨g4, b4, rfl⟩ := (Sl.row (hp.get 1 rfl)).addr (by rw [List.length_map]; omega)
   have hxm := getD_inL (l := Lc) (i := i) (by omega)
   obtain ⟨Ax, cx, hsh⟩ := sl_shape (hLs _ hxm)
   have hxe := sp_at hLc (i := i) (by omega)
   have hxl := spL_pos (x := (Lc.getD i default).2) (by rw [← hLc]; exact List.mem_map_of_mem hxm)
   refine GW_skip ?_
   refine GW_seq ?_
   refine GW_block ?_
   refine GW_seq ?_
   refine GW_region ?_
   refine GL_rd (v := .slice _ _ _) (wn_none rfl) rfl (rd_move rfl rfl) ?_
   refine GL_rd (v := .int _ _) (wn_none rfl) rfl (rd_move rfl rfl) ?_
   refine GL_rd (wn_none rfl) rfl (rd_indexS (j := i) rfl rfl rfl Tryz.underlying22 ts35 rfl (by omega) _ rfl) ?_
   refine GL_rd (v := .slice _ _ _) (wn_none rfl) rfl (rd_load rfl rfl Tryz.underlying35 rfl ((Sl.row (hp.get 1 rfl)).get _ _ (by rw [Nat.mul_one]; exact (fstL_at (L := Lc) (i := i) (by omega)).trans (congrArg some hsh)))) ?_
   refine GL_call (wn_none rfl) rfl rfl (ref_cAdr _ (Lc.getD i default).2 _ (by have h := (hLs _ hxm).keep hp.mod; rw [hsh] at h; exact h) hxl.1 (by have := hxl.2; omega)) rfl ?_
   rintro _ w ⟨rfl, hk⟩
   have hp := hp.comp hk
   rw [← hxe]
   refine GL_alloc (wn_none rfl) rfl rfl tz30 rfl hp ?_
   intro g2 w hp
   refine GL_store (i := 0) (wn_none rfl) rfl rfl rfl rfl ts30 rfl (by rw [bys_length]; exact (adAt (adrsC l) i).2) (bys_one _) hp rfl (Nat.le_of_ble_eq_true rfl) (splice_all _ _ (by rw [bys_length]; exact (adAt (adrsC l) i).2.trans rfl)) ?_
   intro w hp
   refine GL_nil ?_
   refine GW_seq ?_
   refine GW_region ?_
   refine GL_rd (v := .int _ _) (wn_none rfl) rfl (rd_assign rfl rfl) ?_
   refine GL_nil ?_
   refine GW_block ?_
   refine GW_loop ?_
   refine Lp_ind (α := Nat × Nat × Value × Nat) (fun a_0 f_0 w' => match a_0 with | (k, n, v, ga) => ∃ fz, f_0 = (upd (upd (upd (upd (upd fz 3 (v)) 6 (.pointer (some ⟨ga, 0, none⟩))) 4 (.slice (some ⟨g4, b4, none⟩) Lc.length c4)) 7 (.int .i64 (k : Int))) 5 (.int .i64 (i : Int))) ∧ Hp w0 [] w' [.row 5 1 v n (bys (((txtW ++ putL l.length 4) ++ laidA ((adrsC l).take i)) ++ (adAt (adrsC l) i).1.take k)), cells ga 30 (bys (adAt (adrsC l) i).1), .row 35 1 (.slice (some ⟨g4, b4, none⟩) Lc.length c4) Lc.length (Lc.map Prod.fst)] ∧ (k ≤ 32) ∧ (n = 8 + 32 * i + k)) (fun a_0 => match a_0 with | (k, n, v, ga) => 32 - k) ?_ (0, n, v, g2) _ _ ?_
   ·rintro ⟨k, n, v, ga⟩ f wz ⟨fz, rfl, hp, hk0, hn⟩ ihL1
    refine Lp_round ?_
    refine GW_seq ?_
    refine GW_seq ?_
    refine GW_region ?_
    refine GL_rd (v := .int _ _) (wn_none rfl) rfl (rd_move rfl rfl) ?_
    refine GL_rd (wn_none rfl) rfl (rd_bin rfl rfl rfl bo_lss) ?_
    refine GL_nil ?_
    refine GW_cond rfl (fun hb2 => ?_) (fun hb2 => ?_)
    ·(try simp only [decide_eq_true_eq, decide_eq_false_iff_not, Bool.not_eq_true', Bool.not_eq_false', Bool.not_eq_eq_eq_not, Bool.not_true, Bool.not_false, Int.not_lt, Int.not_le] at hb2)
     refine GW_skip ?_
     refine GW_seq ?_
     refine GW_block ?_
     refine GW_region ?_
     refine GL_rd (v := v) (wn_none rfl) rfl (rd_move rfl rfl) ?_
     refine GL_rd (v := .int _ _) (wn_none rfl) rfl (rd_move rfl rfl) ?_
     refine GL_rd (wn_none rfl) rfl (rd_indexA (j := k) rfl rfl rfl Tryz.underlying30 ts5 rfl (by omega) _ rfl) ?_
     refine GL_rd (wn_none rfl) rfl (rd_load rfl rfl Tryz.underlying5 rfl ((cell_of_cells (hp.get 1 rfl) _).trans (by rw [Nat.zero_add, Nat.mul_one]; exact bys_getD _ _ (by rw [(adAt (adrsC l) i).2]; omega)))) ?_
     refine GL_lit (L := (bys [(adAt (adrsC l) i).1.getD k 0])) (wn_none rfl) rfl rfl Tryz.underlying35 ts5 tz5 rfl (by kernel_rfl) rfl rfl hp ?_
     intro g3 w hp
     refine GL_append (i := 1) (wn_none rfl) rfl rfl rfl rfl Tryz.underlying35 ti5 rfl (by decide) hp rfl (Sl.row (hp.get 0 rfl)) (bys_one _) (by omega) (by omega) ?_
     intro v2 w hp
     rw [← bys_append] at hp
     refine GL_rd (v := v2) (wn_none rfl) rfl (rd_assign rfl rfl) ?_
     refine GL_nil ?_
     refine GW_region ?_
     refine GL_rd (v := .int _ _) (wn_none rfl) rfl (rd_move rfl rfl) ?_
     refine GL_rd (wn_none rfl) rfl (rd_bin rfl rfl rfl (bo_add64 (by omega))) ?_
     refine GL_rd (v := .int _ _) (wn_none rfl) rfl (rd_assign rfl rfl) ?_
     refine GL_nil ?_
     have hp := ((((hp.front 3 rfl).front 3 rfl).front 3 rfl).take 3)
     have hp := hp.cast (show _ = [.row 5 1 v2 (n + 1) (bys (((txtW ++ putL l.length 4) ++ laidA ((adrsC l).take i)) ++ (adAt (adrsC l) i).1.take (k + 1))), cells ga 30 (bys (adAt (adrsC l) i).1), .row 35 1 (.slice (some ⟨g4, b4, none⟩) Lc.length c4) Lc.length (Lc.map Prod.fst)] by rw [← List.take_succ_eq_append_getD (by rw [(adAt (adrsC l) i).2]; omega), List.append_assoc]; rfl)
     exact ihL1 (k + 1, _, _, _) _ _ (by simp only []; omega) ⟨_, slots5 rfl rfl rfl rfl rfl, hp, by omega, by omega⟩
    ·(try simp only [decide_eq_true_eq, decide_eq_false_iff_not, Bool.not_eq_true', Bool.not_eq_false', Bool.not_eq_eq_eq_not, Bool.not_true, Bool.not_false, Int.not_lt, Int.not_le] at hb2)
     obtain rfl : k = 32 := by omega
     rw [List.take_of_length_le (l := (adAt (adrsC l) i).1) (by rw [(adAt (adrsC l) i).2]; omega), List.append_assoc, ← laidA_getD (by omega)] at hp
     refine GW_exit ?_
     refine GW_region ?_
     refine GL_rd (v := .int _ _) (wn_none rfl) rfl (rd_move rfl rfl) ?_
     refine GL_rd (wn_none rfl) rfl (rd_bin rfl rfl rfl (bo_add64 (by omega))) ?_
     refine GL_rd (v := .int _ _) (wn_none rfl) rfl (rd_assign rfl rfl) ?_
     refine GL_nil ?_
     have hp := (((hp.front 2 rfl).front 1 rfl).take 2)
     exact ihL0 (i + 1, _, v, some ⟨g4, b4, none⟩) _ _ (by simp only []; omega) ⟨_, slots3 rfl rfl rfl, hp, by omega, by omega⟩
   ·have hp := ((((hp.front 2 rfl).front 1 rfl).front 2 rfl).take 3)
    have hp := hp.cast (show _ = [.row 5 1 v n (bys (((txtW ++ putL l.length 4) ++ laidA ((adrsC l).take i)) ++ (adAt (adrsC l) i).1.take 0)), cells g2 30 (bys (adAt (adrsC l) i).1), .row 35 1 (.slice (some ⟨g4, b4, none⟩) Lc.length c4) Lc.length (Lc.map Prod.fst)] by rw [List.take_zero, List.append_nil]; rfl)
    refine ⟨_, slots5 rfl rfl rfl rfl rfl, hp, Nat.zero_le _, by omega⟩
  ·(try simp only [decide_eq_true_eq, decide_eq_false_iff_not, Bool.not_eq_true', Bool.not_eq_false', Bool.not_eq_eq_eq_not, Bool.not_true, Bool.not_false, Int.not_lt, Int.not_le] at hb)
   have hil : i = (adrsC l).length := by omega
   rw [hil, List.take_length] at hp
   refine GW_exit ?_
   refine GW_seq ?_
   refine GW_region ?_
   refine GL_rd (v := v) (wn_none rfl) rfl (rd_move rfl rfl) ?_
   refine GL_rd (v := v) (wn_none rfl) rfl (rd_assign rfl rfl) ?_
   refine GL_nil ?_
   refine GW_ret ?_
   have hp := ((hp.front 0 rfl).take 1)
   have en := row_n (hp.get 0 rfl)
   rw [en] at hp
   exact ⟨_, res1 Tryz.results65 (rv_tmp (v := v) rfl rfl), hp⟩
 ·have hp := (((hp.front 0 rfl).front 1 rfl).take 2)
  have hp := hp.cast (show _ = [.row 5 1 v (4 + 4) (bys ((txtW ++ putL l.length 4) ++ laidA ((adrsC l).take 0))), .row 35 1 (.slice A4 Lc.length c4) Lc.length (Lc.map Prod.fst)] by rw [List.take_zero, laidA, List.flatMap_nil, List.append_nil]; rfl)
  refine ⟨_, slots3 rfl rfl rfl, hp, Nat.zero_le _, rfl⟩
theorem ref_tText (sv : Value) (l : List UInt8) (w0 : World) (hs : Sl w0 sv 1 l.length (bys l)) (hb : l.length ≤ 65536) : Does Tryz.prog 38 #[sv] w0 fun v w' => v = .agg ⟨bys (txOf l).1⟩ ∧ Hp w0 [] w' [] := by
 obtain ⟨A, c, rfl⟩ := sl_shape hs
 have hwl := txSaid_length l.length (adrsC l)
 have hcl : cntC l.length ≤ 65536 := by unfold cntC; omega
 have hal := adrsC_len l
 refine does_of (l := [.slice A l.length c]) Tryz.func38 (by kernel_rfl) rfl Tryz.ntmps38 rfl rfl (by kernel_rfl) ?_
 have hp := Hp.refl w0 []
 refine GW_seq ?_
 refine GW_region ?_
 refine GL_alloc (wn_none rfl) rfl rfl tz30 rfl hp ?_
 intro g w hp
 refine GL_nil ?_
 refine GW_seq ?_
 refine GW_region ?_
 refine GL_rd (v := .slice _ _ _) (wn_none rfl) rfl (rd_move rfl rfl) ?_
 refine GL_call (wn_none rfl) rfl rfl (ref_Words _ l _ (hs.keep hp.mod) hb) rfl ?_
 intro vs w hk
 have hp := hp.comp hk
 refine GL_call (wn_none rfl) rfl rfl (ref_Sum _ _ (txSaid l.length (adrsC l)) _ (Sl.row (hp.get 0 rfl)) (by omega)) rfl ?_
 rintro _ w ⟨rfl, hk⟩
 have hp := hp.comp hk
 refine GL_store (i := 1) (wn_none rfl) rfl rfl rfl rfl ts30 rfl (by rw [bys_length]; exact (txOf l).2) (bys_one _) hp rfl (Nat.le_of_ble_eq_true rfl) (splice_all _ _ (by rw [bys_length]; exact (txOf l).2.trans rfl)) ?_
 intro w hp
 refine GL_nil ?_
 refine GW_ret ?_
 exact ⟨_, res1 Tryz.results38 (rv_cell rfl rfl Tryz.underlying30 rfl ts30 (by rw [bys_length]; exact (txOf l).2) (hp.get 1 rfl)), rfl, hp.mods⟩
end Go.Proofs.YtpagpmioopaciaaGreat
