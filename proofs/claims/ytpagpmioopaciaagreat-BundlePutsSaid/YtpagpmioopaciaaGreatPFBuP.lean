/- Walks of functions of the program. -/
import Derived.Test.YtpagpmioopaciaaGreatPFBun
import Derived.Test.YtpagpmioopaciaaGreatPFCrc
set_option linter.unusedVariables false
set_option linter.unusedSimpArgs false
namespace Go.Proofs.YtpagpmioopaciaaGreat
open Go.Mo Go.RowKit
set_option maxHeartbeats 1000000 in
theorem bu_Put (b : Bu) (tv av : Value) (w0 : World) (hB : BuAt b tv av w0) (hS : BuSm b) : Does Tryz.prog 9 #[.agg ⟨buC b tv av⟩] w0 fun v w' => ∃ pv, v = .tuple #[pv, .int .i64 (buK b)] ∧ Hp w0 [] w' [.row 5 1 pv (buBytes b).length (bys (buBytes b))] := by
 have hS0 := hS
 obtain ⟨At, ct, rfl⟩ := sl_shape hB.tx
 obtain ⟨Aa, ca, rfl⟩ := sl_shape hB.au
 have htx := hB.tx
 have hau := hB.au
 obtain ⟨hSc, hSn, hSl, hSt, hSk, hSa⟩ := hS
 refine does_of (l := [.agg ⟨(buC b (.slice At b.tx.length ct) (.slice Aa b.au.length ca))⟩]) Tryz.func9 (by kernel_rfl) rfl Tryz.ntmps9 rfl rfl (by kernel_rfl) ?_
 have hp := Hp.refl w0 []
 refine GW_seq ?_
 refine GW_region ?_
 refine GL_box (wn_none rfl) rfl rfl rfl rfl hp ?_
 intro g w hp
 refine GL_rd (v := .slice _ _ _) (wn_none rfl) rfl (rd_assign rfl rfl) ?_
 refine GL_rd (v := .int _ _) (wn_none rfl) rfl (rd_assign rfl rfl) ?_
 refine GL_nil ?_
 refine GW_seq ?_
 refine GW_region ?_
 refine GL_rd (wn_none rfl) rfl (rd_loadC rfl rfl Tryz.underlying28 rfl ts28 (hp.get 0 rfl) (by first | (rw [bys_length]; first | exact a32_len _) | rfl | simp [bys_length, *])) ?_
 refine GL_call (wn_none rfl) rfl rfl (bu_Seal b _ _ _ (hB.keep hp.mod) hS0) rfl ?_
 rintro _ w ⟨rfl, hk⟩
 have hp := hp.comp hk
 refine GL_rd (v := .tuple _) (wn_none rfl) rfl (rd_move rfl rfl) ?_
 refine GL_rd (v := .agg ⟨_⟩) (wn_none rfl) rfl (rd_extract rfl rfl rfl) ?_
 refine GL_rd (v := .int .i64 (buK b)) (wn_none rfl) rfl (rd_extract rfl rfl rfl) ?_
 refine GL_alloc (wn_none rfl) rfl rfl tz30 rfl hp ?_
 intro g2 w hp
 refine GL_store (i := 0) (wn_none rfl) rfl rfl rfl rfl ts30 rfl (by rw [bys_length]; exact (buSeal b).2) (bys_one _) hp rfl (Nat.le_of_ble_eq_true rfl) (splice_all _ _ (by rw [bys_length]; exact (buSeal b).2.trans rfl)) ?_
 intro w hp
 refine GL_rd (v := .int .i64 (buK b)) (wn_none rfl) rfl (rd_assign rfl rfl) ?_
 refine GL_nil ?_
 refine GW_seq ?_
 refine GW_seq ?_
 refine GW_region ?_
 refine GL_rd (v := .int .i64 (buK b)) (wn_none rfl) rfl (rd_move rfl rfl) ?_
 refine GL_rd (wn_none rfl) rfl (rd_bin rfl rfl rfl bo_neq) ?_
 refine GL_nil ?_
 refine GW_cond rfl (fun hb => ?_) (fun hb => ?_)
 ·(try simp only [decide_eq_true_eq, decide_eq_false_iff_not, Bool.not_eq_true', Bool.not_eq_false', Bool.not_eq_eq_eq_not, Bool.not_true, Bool.not_false, Int.not_lt, Int.not_le] at hb)
  have hc : ¬ buK b = 0 := hb
  refine GW_seq ?_
  refine GW_region ?_
  refine GL_rd (v := .int .i64 (buK b)) (wn_none rfl) rfl (rd_move rfl rfl) ?_
  refine GL_rd (v := .slice _ _ _) (wn_none rfl) rfl (rd_assign rfl rfl) ?_
  refine GL_rd (v := .int .i64 (buK b)) (wn_none rfl) rfl (rd_assign rfl rfl) ?_
  refine GL_nil ?_
  refine GW_ret ?_
  have hp := hp.mods.nilRow 5 1
  exact ⟨_, res2 Tryz.results9 (rv_tmp (v := .slice _ _ _) rfl rfl) (rv_tmp (v := .int .i64 (buK b)) rfl rfl), .slice none 0 0, rfl, by rw [buBytes_no hc]; exact hp⟩
 ·(try simp only [decide_eq_true_eq, decide_eq_false_iff_not, Bool.not_eq_true', Bool.not_eq_false', Bool.not_eq_eq_eq_not, Bool.not_true, Bool.not_false, Int.not_lt, Int.not_le] at hb)
  have hc : buK b = 0 := hb
  have hd := buHd_ok.1 (buK_ok hc).1
  have htl := (buK_ok hc).2.1
  have hal := (buK_ok hc).2.2
  have h0l := buS0_len (buK_ok hc).1
  have hf1 : (fldL b.cls.data.toList).length = 2 + b.cls.size := by rw [fldL_len, strl_len]
  have hf2 : (fldL b.note.data.toList).length = 2 + b.note.size := by rw [fldL_len, strl_len]
  have htt : ∀ i, i ≤ b.tx.length → (buTs (b.tx.take i)).length ≤ 2050 * i := fun i hi => by have h := buTs_le (b.tx.take i) (k := 2048) fun x hx => (htl x (List.take_subset _ _ hx)).2; rwa [List.length_take, Nat.min_eq_left hi] at h
  have haa : ∀ i, i ≤ b.au.length → (buAs (b.au.take i)).length ≤ 155 * i := fun i hi => by have h := buAs_le (b.au.take i); rwa [List.length_take, Nat.min_eq_left hi] at h
  refine GW_skip ?_
  refine GW_seq ?_
  refine GW_region ?_
  refine GL_lit (L := (bys buW)) (wn_none rfl) rfl rfl Tryz.underlying35 ts5 tz5 rfl (by kernel_rfl) rfl rfl hp ?_
  intro g3 w hp
  refine GL_convB (i := 0) (wn_none rfl) rfl rfl rfl Tryz.underlying35 Tryz.underlying5 hp rfl ?_
  intro w hp
  refine GL_rd (wn_none rfl) rfl (rd_field rfl rfl fa28_0 _ rfl) ?_
  refine GL_rd (wn_none rfl) rfl (rd_load rfl rfl Tryz.underlying9 rfl ((cell_of_cells (hp.get 2 rfl) _).trans rfl)) ?_
  refine GL_strB (wn_none rfl) rfl rfl rfl Tryz.underlying9 Tryz.underlying35 Tryz.underlying5 hp (by omega) ?_
  intro sb ob sv w hp hsl
  refine GL_call (wn_none rfl) rfl rfl (bu_field _ b.cls.data.toList _ (by rw [strl_len]; exact hsl _ (hp.get 0 rfl)) (by rw [strl_len]; omega)) rfl ?_
  intro vf w hk
  have hp := hp.comp hk
  refine GL_appendFull (wn_none rfl) rfl rfl rfl rfl Tryz.underlying35 ti5 rfl (by decide) hp (Sl.blk (hp.get 2 rfl) 1 _ rfl (by simp [maxLen])) (Sl.row (hp.get 0 rfl)) (by omega) (by decide) (by omega) (by omega) (by omega) ?_
  intro v w hp
  rw [← bys_append] at hp
  refine GL_rd (v := v) (wn_none rfl) rfl (rd_assign rfl rfl) ?_
  refine GL_nil ?_
  refine GW_seq ?_
  refine GW_region ?_
  refine GL_rd (v := v) (wn_none rfl) rfl (rd_move rfl rfl) ?_
  refine GL_rd (wn_none rfl) rfl (rd_field rfl rfl fa28_1 _ rfl) ?_
  refine GL_rd (wn_none rfl) rfl (rd_load rfl rfl Tryz.underlying3 rfl ((cell_of_cells (hp.get 5 rfl) _).trans rfl)) ?_
  refine GL_rd (wn_none rfl) rfl (rd_convE (q := (u64N b.made : Int)) rfl rfl Tryz.underlying62 Tryz.underlying3 (by simp) (u64_wrapN _)) ?_
  refine GL_call (wn_none rfl) rfl rfl (word_Put (u64N b.made) 6 _ (u64N_lt _) (by decide)) rfl ?_
  rintro _ w ⟨q, rfl, hk⟩
  have hp := hp.comp hk
  refine GL_append (i := 1) (wn_none rfl) rfl rfl rfl rfl Tryz.underlying35 ti5 rfl (by decide) hp rfl (Sl.row (hp.get 0 rfl)) (bys_one _) (by omega) (by omega) ?_
  intro v2 w hp
  rw [← bys_append] at hp
  refine GL_rd (v := v2) (wn_none rfl) rfl (rd_assign rfl rfl) ?_
  refine GL_nil ?_
  refine GW_seq ?_
  refine GW_region ?_
  refine GL_rd (v := v2) (wn_none rfl) rfl (rd_move rfl rfl) ?_
  refine GL_rd (wn_none rfl) rfl (rd_field rfl rfl fa28_2 _ rfl) ?_
  refine GL_rd (wn_none rfl) rfl (rd_load rfl rfl Tryz.underlying9 rfl ((cell_of_cells (hp.get 6 rfl) _).trans rfl)) ?_
  refine GL_strB (wn_none rfl) rfl rfl rfl Tryz.underlying9 Tryz.underlying35 Tryz.underlying5 hp (by omega) ?_
  intro sb2 ob2 sv2 w hp hsl2
  refine GL_call (wn_none rfl) rfl rfl (bu_field _ b.note.data.toList _ (by rw [strl_len]; exact hsl2 _ (hp.get 0 rfl)) (by rw [strl_len]; omega)) rfl ?_
  intro vf w hk
  have hp := hp.comp hk
  refine GL_append (i := 3) (wn_none rfl) rfl rfl rfl rfl Tryz.underlying35 ti5 rfl (by decide) hp rfl (Sl.row (hp.get 0 rfl)) (bys_one _) (by omega) (by omega) ?_
  intro v3 w hp
  rw [← bys_append] at hp
  refine GL_rd (v := v3) (wn_none rfl) rfl (rd_assign rfl rfl) ?_
  refine GL_nil ?_
  refine GW_seq ?_
  refine GW_region ?_
  refine GL_rd (v := v3) (wn_none rfl) rfl (rd_move rfl rfl) ?_
  refine GL_rd (wn_none rfl) rfl (rd_field rfl rfl fa28_3 _ rfl) ?_
  refine GL_rd (v := .slice _ _ _) (wn_none rfl) rfl (rd_load rfl rfl Tryz.underlying22 rfl ((cell_of_cells (hp.get 8 rfl) _).trans rfl)) ?_
  refine GL_rd (wn_none rfl) rfl (rd_len rfl rfl Tryz.underlying22) ?_
  refine GL_rd (wn_none rfl) rfl (rd_convE (q := ((nB b.tx.length).toNat : Int)) rfl rfl Tryz.underlying5 Tryz.underlying3 (by simp) (kB_wrap _)) ?_
  refine GL_lit (L := (bys [nB b.tx.length])) (wn_none rfl) rfl rfl Tryz.underlying35 ts5 tz5 rfl (by kernel_rfl) rfl rfl hp ?_
  intro g4 w hp
  refine GL_append (i := 4) (wn_none rfl) rfl rfl rfl rfl Tryz.underlying35 ti5 rfl (by decide) hp rfl (Sl.row (hp.get 0 rfl)) (bys_one _) (by omega) (by omega) ?_
  intro v4 w hp
  rw [← bys_append] at hp
  refine GL_rd (v := v4) (wn_none rfl) rfl (rd_assign rfl rfl) ?_
  refine GL_nil ?_
  refine GW_seq ?_
  refine GW_seq ?_
  refine GW_region ?_
  refine GL_rd (wn_none rfl) rfl (rd_field rfl rfl fa28_3 _ rfl) ?_
  refine GL_rd (v := .slice _ _ _) (wn_none rfl) rfl (rd_load rfl rfl Tryz.underlying22 rfl ((cell_of_cells (hp.get 9 rfl) _).trans rfl)) ?_
  refine GL_rd (wn_none rfl) rfl (rd_len rfl rfl Tryz.underlying22) ?_
  refine GL_rd (v := .int _ _) (wn_none rfl) rfl (rd_move rfl rfl) ?_
  refine GL_nil ?_
  refine GW_block ?_
  refine GW_loop ?_
  refine Lp_ind (α := Nat × Option Addr × Value × Nat) (fun a_0 f_0 w' => match a_0 with | (i, At, v, gs) => ∃ fz, f_0 = (upd (upd (upd (upd (upd (upd fz 48 (.slice At b.tx.length ct)) 49 (.int .i64 (b.tx.length : Int))) 50 (.int .i64 (i : Int))) 6 (v)) 4 (.pointer (some ⟨gs, 0, none⟩))) 1 (.pointer (some ⟨g, 0, none⟩))) ∧ Hp w0 [] w' [.row 5 1 v (buS0 b ++ buTs (b.tx.take i)).length (bys (buS0 b ++ buTs (b.tx.take i))), cells gs 30 (bys (buSeal b).1), cells g 28 (buC b (.slice At b.tx.length ct) (.slice Aa b.au.length ca))] ∧ (i ≤ b.tx.length) ∧ (Sl w0 (.slice At b.tx.length ct) 1 b.tx.length (b.tx.map Prod.fst))) (fun a_0 => match a_0 with | (i, At, v, gs) => b.tx.length - i) ?_ (0, At, v4, g2) _ _ ?_
  ·rintro ⟨i, At, v, gs⟩ f wz ⟨fz, rfl, hp, hi0, htx⟩ ihL0
   refine Lp_round ?_
   refine GW_seq ?_
   refine GW_region ?_
   refine GL_rd (wn_none rfl) rfl (rd_bin rfl rfl rfl bo_lss) ?_
   refine GL_nil ?_
   refine GW_seq ?_
   refine GW_cond rfl (fun hb2 => ?_) (fun hb2 => ?_)
   ·(try simp only [decide_eq_true_eq, decide_eq_false_iff_not, Bool.not_eq_true', Bool.not_eq_false', Bool.not_eq_eq_eq_not, Bool.not_true, Bool.not_false, Int.not_lt, Int.not_le] at hb2)
    obtain ⟨gT, bT, rfl⟩ := htx.addr (by rw [List.length_map]; omega)
    have hxm := getD_inL (l := b.tx) (i := i) (by omega)
    obtain ⟨Ax, cx, hsh⟩ := sl_shape (hB.txs _ hxm)
    have hxb := hSt _ hxm
    have hx2 := htl _ hxm
    have hti := htt i hi0
    have hfl := fldL_len (b.tx.getD i default).2
    have hXl : (buS0 b ++ buTs (b.tx.take i)).length = (buS0 b).length + (buTs (b.tx.take i)).length := List.length_append
    refine GW_skip ?_
    refine GW_seq ?_
    refine GW_block ?_
    refine GW_seq ?_
    refine GW_region ?_
    refine GL_rd (wn_none rfl) rfl (rd_indexS (j := i) rfl rfl rfl Tryz.underlying22 ts35 rfl (by omega) _ rfl) ?_
    refine GL_rd (v := .slice _ _ _) (wn_none rfl) rfl (rd_load rfl rfl Tryz.underlying35 rfl ((htx.keep hp.mod).get _ _ (by rw [Nat.mul_one]; exact (fstL_at (L := b.tx) (i := i) (by omega)).trans (congrArg some hsh)))) ?_
    refine GL_rd (v := .slice _ _ _) (wn_none rfl) rfl (rd_assign rfl rfl) ?_
    refine GL_nil ?_
    refine GW_region ?_
    refine GL_rd (v := v) (wn_none rfl) rfl (rd_move rfl rfl) ?_
    refine GL_rd (v := .slice _ _ _) (wn_none rfl) rfl (rd_move rfl rfl) ?_
    refine GL_call (wn_none rfl) rfl rfl (bu_field _ (b.tx.getD i default).2 _ (by have h := (hB.txs _ hxm).keep hp.mod; rw [hsh] at h; exact h) (by omega)) rfl ?_
    intro vf w hk
    have hp := hp.comp hk
    refine GL_append (i := 1) (wn_none rfl) rfl rfl rfl rfl Tryz.underlying35 ti5 rfl (by decide) hp rfl (Sl.row (hp.get 0 rfl)) (bys_one _) (by omega) (by omega) ?_
    intro v5 w hp
    rw [← bys_append] at hp
    refine GL_rd (v := v5) (wn_none rfl) rfl (rd_assign rfl rfl) ?_
    refine GL_nil ?_
    refine GW_region ?_
    refine GL_rd (wn_none rfl) rfl (rd_bin rfl rfl rfl (bo_add64 (by omega))) ?_
    refine GL_rd (v := .int _ _) (wn_none rfl) rfl (rd_move rfl rfl) ?_
    refine GL_nil ?_
    have hp := ((((hp.front 3 rfl).front 3 rfl).front 3 rfl).take 3)
    have hp := hp.cast (show _ = [.row 5 1 v5 _ (bys (buS0 b ++ buTs (b.tx.take (i + 1)))), cells gs 30 (bys (buSeal b).1), cells g 28 (buC b (.slice (some ⟨gT, bT, none⟩) b.tx.length ct) (.slice Aa b.au.length ca))] by rw [buTs_snoc (by omega), ← List.append_assoc]; rfl)
    have en := row_n (hp.get 0 rfl)
    rw [en] at hp
    exact ihL0 (i + 1, _, _, _) _ _ (by simp only []; omega) ⟨_, slots6 rfl rfl rfl rfl rfl rfl, hp, by omega, htx⟩
   ·(try simp only [decide_eq_true_eq, decide_eq_false_iff_not, Bool.not_eq_true', Bool.not_eq_false', Bool.not_eq_eq_eq_not, Bool.not_true, Bool.not_false, Int.not_lt, Int.not_le] at hb2)
    have hil : i = b.tx.length := by omega
    have hti := htt i hi0
    rw [hil, List.take_length] at hp hti
    have hXl : (buS0 b ++ buTs b.tx).length = (buS0 b).length + (buTs b.tx).length := List.length_append
    refine GW_exit ?_
    refine GW_seq ?_
    refine GW_region ?_
    refine GL_rd (v := v) (wn_none rfl) rfl (rd_move rfl rfl) ?_
    refine GL_rd (wn_none rfl) rfl (rd_field rfl rfl fa28_4 _ rfl) ?_
    refine GL_rd (v := .slice _ _ _) (wn_none rfl) rfl (rd_load rfl rfl Tryz.underlying23 rfl ((cell_of_cells (hp.get 2 rfl) _).trans rfl)) ?_
    refine GL_rd (wn_none rfl) rfl (rd_len rfl rfl Tryz.underlying23) ?_
    refine GL_rd (wn_none rfl) rfl (rd_convE (q := ((nB b.au.length).toNat : Int)) rfl rfl Tryz.underlying5 Tryz.underlying3 (by simp) (kB_wrap _)) ?_
    refine GL_lit (L := (bys [nB b.au.length])) (wn_none rfl) rfl rfl Tryz.underlying35 ts5 tz5 rfl (by kernel_rfl) rfl rfl hp ?_
    intro g5 w hp
    refine GL_append (i := 1) (wn_none rfl) rfl rfl rfl rfl Tryz.underlying35 ti5 rfl (by decide) hp rfl (Sl.row (hp.get 0 rfl)) (bys_one _) (by omega) (by omega) ?_
    intro v6 w hp
    rw [← bys_append] at hp
    refine GL_rd (v := v6) (wn_none rfl) rfl (rd_assign rfl rfl) ?_
    refine GL_nil ?_
    refine GW_seq ?_
    refine GW_seq ?_
    refine GW_region ?_
    refine GL_rd (wn_none rfl) rfl (rd_field rfl rfl fa28_4 _ rfl) ?_
    refine GL_rd (v := .slice _ _ _) (wn_none rfl) rfl (rd_load rfl rfl Tryz.underlying23 rfl ((cell_of_cells (hp.get 3 rfl) _).trans rfl)) ?_
    refine GL_rd (wn_none rfl) rfl (rd_len rfl rfl Tryz.underlying23) ?_
    refine GL_rd (v := .int _ _) (wn_none rfl) rfl (rd_move rfl rfl) ?_
    refine GL_nil ?_
    refine GW_block ?_
    refine GW_loop ?_
    refine Lp_ind (α := Nat × Option Addr × Value × Nat) (fun a_0 f_0 w' => match a_0 with | (i, Aa, v, gs) => ∃ fz, f_0 = (upd (upd (upd (upd (upd fz 67 (.slice Aa b.au.length ca)) 68 (.int .i64 (b.au.length : Int))) 69 (.int .i64 (i : Int))) 6 (v)) 4 (.pointer (some ⟨gs, 0, none⟩))) ∧ Hp w0 [] w' [.row 5 1 v (buS0 b ++ buTs b.tx ++ [nB b.au.length] ++ buAs (b.au.take i)).length (bys (buS0 b ++ buTs b.tx ++ [nB b.au.length] ++ buAs (b.au.take i))), cells gs 30 (bys (buSeal b).1), cells g 28 (buC b (.slice At b.tx.length ct) (.slice Aa b.au.length ca))] ∧ (i ≤ b.au.length) ∧ (Sl w0 (.slice Aa b.au.length ca) 100 b.au.length (b.au.flatMap recC))) (fun a_0 => match a_0 with | (i, Aa, v, gs) => b.au.length - i) ?_ (0, Aa, v6, gs) _ _ ?_
    ·rintro ⟨i, Aa, v, gs⟩ f wz ⟨fz, rfl, hp, hi0, hau⟩ ihL1
     refine Lp_round ?_
     refine GW_seq ?_
     refine GW_region ?_
     refine GL_rd (wn_none rfl) rfl (rd_bin rfl rfl rfl bo_lss) ?_
     refine GL_nil ?_
     refine GW_seq ?_
     refine GW_cond rfl (fun hb3 => ?_) (fun hb3 => ?_)
     ·(try simp only [decide_eq_true_eq, decide_eq_false_iff_not, Bool.not_eq_true', Bool.not_eq_false', Bool.not_eq_eq_eq_not, Bool.not_true, Bool.not_false, Int.not_lt, Int.not_le] at hb3)
      obtain ⟨gU, bU, rfl⟩ := hau.addr (by rw [flat_length recC_len]; omega)
      have hrz := hSa _ (recAt_mem (l := b.au) (i := i) (by omega))
      have hai := haa i hi0
      have hpl := putB_le (recAt b.au i)
      have hXl : (buS0 b ++ buTs b.tx ++ [nB b.au.length] ++ buAs (b.au.take i)).length = (buS0 b).length + (buTs b.tx).length + 1 + (buAs (b.au.take i)).length := by simp only [List.length_append, List.length_cons, List.length_nil]
      refine GW_skip ?_
      refine GW_seq ?_
      refine GW_block ?_
      refine GW_seq ?_
      refine GW_region ?_
      refine GL_rd (wn_none rfl) rfl (rd_indexS (j := i) rfl rfl rfl Tryz.underlying23 ts46 rfl (by omega) _ rfl) ?_
      refine GL_rd (wn_none rfl) rfl (rd_loadN (L := recC _) rfl rfl Tryz.underlying46 rfl ts46 (recC_len _) (fun jq u hj => Sl.recE (hau.keep hp.mod) i (by first | omega | assumption | exact Nat.lt_succ_self _) hj)) ?_
      refine GL_alloc (wn_none rfl) rfl rfl tz46 rfl hp ?_
      intro g6 w hp
      refine GL_store (i := 0) (wn_none rfl) rfl rfl rfl rfl ts46 rfl (recC_len _) (recC_one _) hp rfl (by first | exact Nat.le_of_ble_eq_true rfl | (rw [recC_len]; decide)) (splice_all _ _ (by first | rw [recC_len, recC_len] | (rw [recC_len]; rfl))) ?_
      intro w hp
      refine GL_nil ?_
      refine GW_seq ?_
      refine GW_region ?_
      refine GL_rd (wn_none rfl) rfl (rd_loadC rfl rfl Tryz.underlying46 rfl ts46 (hp.get 0 rfl) (recC_len _)) ?_
      refine GL_call (wn_none rfl) rfl rfl (aud_Put (recAt b.au i) _ hrz) rfl ?_
      rintro _ w ⟨vb, rfl, hk⟩
      have hp := hp.comp hk
      refine GL_rd (v := .tuple _) (wn_none rfl) rfl (rd_move rfl rfl) ?_
      refine GL_rd (v := vb) (wn_none rfl) rfl (rd_extract rfl rfl rfl) ?_
      refine GL_rd (v := .int _ _) (wn_none rfl) rfl (rd_extract rfl rfl rfl) ?_
      refine GL_rd (v := vb) (wn_none rfl) rfl (rd_assign rfl rfl) ?_
      refine GL_rd (v := .int _ _) (wn_none rfl) rfl (rd_assign rfl rfl) ?_
      refine GL_nil ?_
      refine GW_region ?_
      refine GL_rd (v := v) (wn_none rfl) rfl (rd_move rfl rfl) ?_
      refine GL_rd (v := vb) (wn_none rfl) rfl (rd_move rfl rfl) ?_
      refine GL_append (i := 2) (wn_none rfl) rfl rfl rfl rfl Tryz.underlying35 ti5 rfl (by decide) hp rfl (Sl.row (hp.get 0 rfl)) (bys_one _) (by omega) (by omega) ?_
      intro v7 w hp
      rw [← bys_append] at hp
      refine GL_rd (v := v7) (wn_none rfl) rfl (rd_assign rfl rfl) ?_
      refine GL_nil ?_
      refine GW_region ?_
      refine GL_rd (wn_none rfl) rfl (rd_bin rfl rfl rfl (bo_add64 (by omega))) ?_
      refine GL_rd (v := .int _ _) (wn_none rfl) rfl (rd_move rfl rfl) ?_
      refine GL_nil ?_
      have hp := ((((hp.front 4 rfl).front 4 rfl).front 4 rfl).take 3)
      have hp := hp.cast (show _ = [.row 5 1 v7 _ (bys (buS0 b ++ buTs b.tx ++ [nB b.au.length] ++ buAs (b.au.take (i + 1)))), cells gs 30 (bys (buSeal b).1), cells g 28 (buC b (.slice At b.tx.length ct) (.slice (some ⟨gU, bU, none⟩) b.au.length ca))] by rw [buAs_snoc (by omega), ← List.append_assoc]; rfl)
      have en := row_n (hp.get 0 rfl)
      rw [en] at hp
      exact ihL1 (i + 1, _, _, _) _ _ (by simp only []; omega) ⟨_, slots5 rfl rfl rfl rfl rfl, hp, by omega, hau⟩
     ·(try simp only [decide_eq_true_eq, decide_eq_false_iff_not, Bool.not_eq_true', Bool.not_eq_false', Bool.not_eq_eq_eq_not, Bool.not_true, Bool.not_false, Int.not_lt, Int.not_le] at hb3)
      have hil : i = b.au.length := by omega
      have hai := haa i hi0
      rw [hil, List.take_length] at hp hai
      have hXl : (buS0 b ++ buTs b.tx ++ [nB b.au.length] ++ buAs b.au).length = (buS0 b).length + (buTs b.tx).length + 1 + (buAs b.au).length := by simp only [List.length_append, List.length_cons, List.length_nil]
      refine GW_exit ?_
      refine GW_seq ?_
      refine GW_region ?_
      refine GL_rd (v := v) (wn_none rfl) rfl (rd_move rfl rfl) ?_
      refine GL_rd (wn_none rfl) rfl (rd_sliceA (lo := 0) (hi := 32) rfl rfl Tryz.underlying30 ts5 at_none to_none (by decide) (by decide) (by decide) _ rfl) ?_
      refine GL_append (i := 0) (wn_none rfl) rfl rfl rfl rfl Tryz.underlying35 ti5 rfl (by decide) hp rfl (Sl.cells (hp.get 1 rfl) 1 32 32 0 (bys (buSeal b).1) (by rw [List.drop_zero, List.take_of_length_le (by rw [bys_length, (buSeal b).2]; decide)]) (by rw [bys_length, (buSeal b).2]; decide) (by decide) (by decide)) (bys_one _) (by omega) (by omega) ?_
      intro v8 w hp
      rw [← bys_append] at hp
      have hp := hp.cast (show _ = _ from rfl)
      refine GL_call (wn_none rfl) rfl rfl (crc_Sealed _ _ (buSaid b) _ (Sl.row (hp.get 0 rfl)) (by omega)) rfl ?_
      intro px w hk
      have hp := hp.comp hk
      refine GL_rd (v := px) (wn_none rfl) rfl (rd_assign rfl rfl) ?_
      refine GL_rd (v := .int _ _) (wn_none rfl) rfl (rd_assign rfl rfl) ?_
      refine GL_nil ?_
      refine GW_ret ?_
      have hp := ((hp.front 0 rfl).take 1)
      have en := row_n (hp.get 0 rfl)
      rw [en] at hp
      exact ⟨_, res2 Tryz.results9 (rv_tmp (v := px) rfl rfl) (rv_tmp (v := .int _ _) rfl rfl), _, by rw [hc], by rw [buBytes_yes hc]; exact hp⟩
    ·have hp := ((((hp.front 3 rfl).front 3 rfl).front 3 rfl).take 3)
     have hp := hp.cast (show _ = [.row 5 1 v6 _ (bys (buS0 b ++ buTs b.tx ++ [nB b.au.length] ++ buAs (b.au.take 0))), cells gs 30 (bys (buSeal b).1), cells g 28 (buC b (.slice At b.tx.length ct) (.slice Aa b.au.length ca))] by rw [show (buS0 b ++ buTs b.tx ++ [nB b.au.length] ++ buAs (b.au.take 0)) = (buS0 b ++ buTs b.tx ++ [nB b.au.length]) by simp [buAs]]; rfl)
     have en := row_n (hp.get 0 rfl)
     rw [en] at hp
     refine ⟨_, slots5 rfl rfl rfl rfl rfl, hp, Nat.zero_le _, hau⟩
  ·have hp := ((((hp.front 9 rfl).front 9 rfl).front 6 rfl).take 3)
   have hp := hp.cast (show _ = [.row 5 1 v4 _ (bys (buS0 b ++ buTs (b.tx.take 0))), cells g2 30 (bys (buSeal b).1), cells g 28 (buC b (.slice At b.tx.length ct) (.slice Aa b.au.length ca))] by rw [show (buS0 b ++ buTs (b.tx.take 0)) = (buW ++ fldL b.cls.data.toList ++ putL (u64N b.made) 6 ++ fldL b.note.data.toList ++ [nB b.tx.length]) by simp [buS0, buTs]]; rfl)
   have en := row_n (hp.get 0 rfl)
   rw [en] at hp
   refine ⟨_, slots6 rfl rfl rfl rfl rfl rfl, hp, Nat.zero_le _, htx⟩
end Go.Proofs.YtpagpmioopaciaaGreat
