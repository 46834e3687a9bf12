/- Walks of functions of the program. -/
import Derived.Test.YtpagpmioopaciaaGreatPFSam
import Derived.Test.YtpagpmioopaciaaGreatPLAud
import Derived.Test.YtpagpmioopaciaaGreatPBunQ
set_option linter.unusedVariables false
set_option linter.unusedSimpArgs false
namespace Go.Proofs.YtpagpmioopaciaaGreat
open Go.Mo Go.RowKit
set_option maxHeartbeats 1000000 in
theorem bu_light (b : Bu) (tv av : Value) (w0 : World) (hB : BuAt b tv av w0) : Does Tryz.prog 4 #[.agg ⟨buC b tv av⟩] w0 fun v w' => v = .bool (litBu b) ∧ Hp w0 [] w' [] := by
 obtain ⟨At, ct, rfl⟩ := sl_shape hB.tx
 obtain ⟨Aa, ca, rfl⟩ := sl_shape hB.au
 have htx := hB.tx
 have hau := hB.au
 have htl := htx.le
 refine does_of (l := [.agg ⟨(buC b (.slice At b.tx.length ct) (.slice Aa b.au.length ca))⟩]) Tryz.func4 (by kernel_rfl) rfl Tryz.ntmps4 rfl rfl (by kernel_rfl) ?_
 have hp := Hp.refl w0 []
 refine GW_seq ?_
 refine GW_region ?_
 refine GL_box (wn_none rfl) rfl rfl rfl rfl hp ?_
 intro g w hp
 refine GL_rd (v := .bool _) (wn_none rfl) rfl (rd_assign rfl rfl) ?_
 refine GL_nil ?_
 refine GW_seq ?_
 refine GW_seq ?_
 refine GW_region ?_
 refine GL_rd (wn_none rfl) rfl (rd_field rfl rfl fa25_0 _ rfl) ?_
 refine GL_rd (wn_none rfl) rfl (rd_load rfl rfl Tryz.underlying9 rfl ((cell_of_cells (hp.get 0 rfl) _).trans rfl)) ?_
 refine GL_rd (wn_none rfl) rfl (rd_lenS rfl rfl Tryz.underlying9) ?_
 refine GL_rd (wn_none rfl) rfl (rd_bin rfl rfl rfl bo_gtr) ?_
 refine GL_rd (v := .bool _) (wn_none rfl) rfl (rd_move rfl rfl) ?_
 refine GL_split (t := 8) (b := _) rfl ?_ ?_
 ·intro hb; (try simp only [decide_eq_true_eq, decide_eq_false_iff_not, Bool.not_eq_true', Bool.not_eq_false', Bool.not_eq_eq_eq_not, Bool.not_true, Bool.not_false, Int.not_lt, Int.not_le] at hb)
  have hno := litBu_no (b := b) fun q => absurd q.1 (by have := hb; omega)
  refine GL_pass (nw_off rfl rfl rfl rfl rfl) rfl ?_
  refine GL_pass (nw_off rfl rfl rfl rfl rfl) rfl ?_
  refine GL_pass (nw_off rfl rfl rfl rfl rfl) rfl ?_
  refine GL_pass (nw_off rfl rfl rfl rfl rfl) rfl ?_
  refine GL_rd (v := .bool _) (wn_none rfl) rfl (rd_pickT rfl rfl rfl) ?_
  refine GL_rd (v := .bool _) (wn_none rfl) rfl (rd_move rfl rfl) ?_
  refine GL_pass (nw_off rfl rfl rfl rfl rfl) rfl ?_
  refine GL_pass (nw_off rfl rfl rfl rfl rfl) rfl ?_
  refine GL_pass (nw_off rfl rfl rfl rfl rfl) rfl ?_
  refine GL_pass (nw_off rfl rfl rfl rfl rfl) rfl ?_
  refine GL_rd (v := .bool _) (wn_none rfl) rfl (rd_pickT rfl rfl rfl) ?_
  refine GL_rd (v := .bool _) (wn_none rfl) rfl (rd_move rfl rfl) ?_
  refine GL_pass (nw_off rfl rfl rfl rfl rfl) rfl ?_
  refine GL_pass (nw_off rfl rfl rfl rfl rfl) rfl ?_
  refine GL_pass (nw_off rfl rfl rfl rfl rfl) rfl ?_
  refine GL_pass (nw_off rfl rfl rfl rfl rfl) rfl ?_
  refine GL_rd (v := .bool _) (wn_none rfl) rfl (rd_pickT rfl rfl rfl) ?_
  refine GL_nil ?_
  refine GW_true rfl ?_
  refine GW_seq ?_
  refine GW_region ?_
  refine GL_rd (v := .bool _) (wn_none rfl) rfl (rd_assign rfl rfl) ?_
  refine GL_nil ?_
  refine GW_ret ?_
  exact ⟨_, res1 Tryz.results4 (rv_tmp (v := .bool _) rfl rfl), by rw [hno], hp.mods⟩
 ·intro hb; (try simp only [decide_eq_true_eq, decide_eq_false_iff_not, Bool.not_eq_true', Bool.not_eq_false', Bool.not_eq_eq_eq_not, Bool.not_true, Bool.not_false, Int.not_lt, Int.not_le] at hb)
  have hc1 := hb
  refine GL_rd (wn_on rfl rfl rfl rfl) rfl (rd_field rfl rfl fa25_2 _ rfl) ?_
  refine GL_rd (wn_on rfl rfl rfl rfl) rfl (rd_load rfl rfl Tryz.underlying9 rfl ((cell_of_cells (hp.get 0 rfl) _).trans rfl)) ?_
  refine GL_rd (wn_on rfl rfl rfl rfl) rfl (rd_lenS rfl rfl Tryz.underlying9) ?_
  refine GL_rd (wn_on rfl rfl rfl rfl) rfl (rd_bin rfl rfl rfl bo_gtr) ?_
  refine GL_rd (v := .bool _) (wn_none rfl) rfl (rd_pickF rfl rfl rfl) ?_
  refine GL_rd (v := .bool _) (wn_none rfl) rfl (rd_move rfl rfl) ?_
  refine GL_split (t := 14) (b := _) rfl ?_ ?_
  ·intro hb2; (try simp only [decide_eq_true_eq, decide_eq_false_iff_not, Bool.not_eq_true', Bool.not_eq_false', Bool.not_eq_eq_eq_not, Bool.not_true, Bool.not_false, Int.not_lt, Int.not_le] at hb2)
   have hno := litBu_no (b := b) fun q => absurd q.2.1 (by have := hb2; omega)
   refine GL_pass (nw_off rfl rfl rfl rfl rfl) rfl ?_
   refine GL_pass (nw_off rfl rfl rfl rfl rfl) rfl ?_
   refine GL_pass (nw_off rfl rfl rfl rfl rfl) rfl ?_
   refine GL_pass (nw_off rfl rfl rfl rfl rfl) rfl ?_
   refine GL_rd (v := .bool _) (wn_none rfl) rfl (rd_pickT rfl rfl rfl) ?_
   refine GL_rd (v := .bool _) (wn_none rfl) rfl (rd_move rfl rfl) ?_
   refine GL_pass (nw_off rfl rfl rfl rfl rfl) rfl ?_
   refine GL_pass (nw_off rfl rfl rfl rfl rfl) rfl ?_
   refine GL_pass (nw_off rfl rfl rfl rfl rfl) rfl ?_
   refine GL_pass (nw_off rfl rfl rfl rfl rfl) rfl ?_
   refine GL_rd (v := .bool _) (wn_none rfl) rfl (rd_pickT rfl rfl rfl) ?_
   refine GL_nil ?_
   refine GW_true rfl ?_
   refine GW_seq ?_
   refine GW_region ?_
   refine GL_rd (v := .bool _) (wn_none rfl) rfl (rd_assign rfl rfl) ?_
   refine GL_nil ?_
   refine GW_ret ?_
   exact ⟨_, res1 Tryz.results4 (rv_tmp (v := .bool _) rfl rfl), by rw [hno], hp.mods⟩
  ·intro hb2; (try simp only [decide_eq_true_eq, decide_eq_false_iff_not, Bool.not_eq_true', Bool.not_eq_false', Bool.not_eq_eq_eq_not, Bool.not_true, Bool.not_false, Int.not_lt, Int.not_le] at hb2)
   have hc2 := hb2
   refine GL_rd (wn_on rfl rfl rfl rfl) rfl (rd_field rfl rfl fa25_3 _ rfl) ?_
   refine GL_rd (v := .slice _ _ _) (wn_on rfl rfl rfl rfl) rfl (rd_load rfl rfl Tryz.underlying22 rfl ((cell_of_cells (hp.get 0 rfl) _).trans rfl)) ?_
   refine GL_rd (wn_on rfl rfl rfl rfl) rfl (rd_len rfl rfl Tryz.underlying22) ?_
   refine GL_rd (wn_on rfl rfl rfl rfl) rfl (rd_bin rfl rfl rfl bo_gtr) ?_
   refine GL_rd (v := .bool _) (wn_none rfl) rfl (rd_pickF rfl rfl rfl) ?_
   refine GL_rd (v := .bool _) (wn_none rfl) rfl (rd_move rfl rfl) ?_
   refine GL_split (t := 20) (b := _) rfl ?_ ?_
   ·intro hb3; (try simp only [decide_eq_true_eq, decide_eq_false_iff_not, Bool.not_eq_true', Bool.not_eq_false', Bool.not_eq_eq_eq_not, Bool.not_true, Bool.not_false, Int.not_lt, Int.not_le] at hb3)
    have hno := litBu_no (b := b) fun q => absurd q.2.2.1 (by have := hb3; omega)
    refine GL_pass (nw_off rfl rfl rfl rfl rfl) rfl ?_
    refine GL_pass (nw_off rfl rfl rfl rfl rfl) rfl ?_
    refine GL_pass (nw_off rfl rfl rfl rfl rfl) rfl ?_
    refine GL_pass (nw_off rfl rfl rfl rfl rfl) rfl ?_
    refine GL_rd (v := .bool _) (wn_none rfl) rfl (rd_pickT rfl rfl rfl) ?_
    refine GL_nil ?_
    refine GW_true rfl ?_
    refine GW_seq ?_
    refine GW_region ?_
    refine GL_rd (v := .bool _) (wn_none rfl) rfl (rd_assign rfl rfl) ?_
    refine GL_nil ?_
    refine GW_ret ?_
    exact ⟨_, res1 Tryz.results4 (rv_tmp (v := .bool _) rfl rfl), by rw [hno], hp.mods⟩
   ·intro hb3; (try simp only [decide_eq_true_eq, decide_eq_false_iff_not, Bool.not_eq_true', Bool.not_eq_false', Bool.not_eq_eq_eq_not, Bool.not_true, Bool.not_false, Int.not_lt, Int.not_le] at hb3)
    have hc3 := hb3
    refine GL_rd (wn_on rfl rfl rfl rfl) rfl (rd_field rfl rfl fa25_4 _ rfl) ?_
    refine GL_rd (v := .slice _ _ _) (wn_on rfl rfl rfl rfl) rfl (rd_load rfl rfl Tryz.underlying23 rfl ((cell_of_cells (hp.get 0 rfl) _).trans rfl)) ?_
    refine GL_call (wn_on rfl rfl rfl rfl) rfl rfl (law_alight _ _ b.au _ (hau.keep hp.mod)) rfl ?_
    rintro _ w ⟨rfl, hk⟩
    have hp := hp.comp hk
    refine GL_rd (wn_on rfl rfl rfl rfl) rfl (rd_bin rfl rfl rfl bo_gtr) ?_
    refine GL_rd (v := .bool _) (wn_none rfl) rfl (rd_pickF rfl rfl rfl) ?_
    refine GL_nil ?_
    refine GW_cond rfl (fun hb4 => ?_) (fun hb4 => ?_)
    ·(try simp only [decide_eq_true_eq, decide_eq_false_iff_not, Bool.not_eq_true', Bool.not_eq_false', Bool.not_eq_eq_eq_not, Bool.not_true, Bool.not_false, Int.not_lt, Int.not_le] at hb4)
     have hno := litBu_no (b := b) fun q => absurd q.2.2.2.1 (by have := hb4; omega)
     refine GW_seq ?_
     refine GW_region ?_
     refine GL_rd (v := .bool _) (wn_none rfl) rfl (rd_assign rfl rfl) ?_
     refine GL_nil ?_
     refine GW_ret ?_
     exact ⟨_, res1 Tryz.results4 (rv_tmp (v := .bool _) rfl rfl), by rw [hno], hp.mods⟩
    ·(try simp only [decide_eq_true_eq, decide_eq_false_iff_not, Bool.not_eq_true', Bool.not_eq_false', Bool.not_eq_eq_eq_not, Bool.not_true, Bool.not_false, Int.not_lt, Int.not_le] at hb4)
     have hc4 := hb4
     refine GW_skip ?_
     refine GW_seq ?_
     refine GW_seq ?_
     refine GW_region ?_
     refine GL_rd (v := .int _ _) (wn_none rfl) rfl (rd_assign rfl rfl) ?_
     refine GL_nil ?_
     refine GW_block ?_
     refine GW_loop ?_
     refine Lp_ind (α := Nat × Option Addr) (fun a_0 f_0 w' => match a_0 with | (i, At) => ∃ fz, f_0 = (upd (upd fz 3 (.int .i64 (i : Int))) 1 (.pointer (some ⟨g, 0, none⟩))) ∧ Hp w0 [] w' [cells g 25 (buC b (.slice At b.tx.length ct) (.slice Aa b.au.length ca))] ∧ (i ≤ b.tx.length) ∧ (Sl w0 (.slice At b.tx.length ct) 1 b.tx.length (b.tx.map Prod.fst)) ∧ (∀ j, j < i → (b.tx.getD j default).2.length ≤ 2100)) (fun a_0 => match a_0 with | (i, At) => b.tx.length - i) ?_ (0, At) _ _ ?_
     ·rintro ⟨i, At⟩ f wz ⟨fz, rfl, hp, hi0, htx, hz⟩ ihL0
      refine Lp_round ?_
      refine GW_seq ?_
      refine GW_seq ?_
      refine GW_region ?_
      refine GL_rd (v := .int _ _) (wn_none rfl) rfl (rd_move rfl rfl) ?_
      refine GL_rd (wn_none rfl) rfl (rd_field rfl rfl fa25_3 _ rfl) ?_
      refine GL_rd (v := .slice _ _ _) (wn_none rfl) rfl (rd_load rfl rfl Tryz.underlying22 rfl ((cell_of_cells (hp.get 0 rfl) _).trans rfl)) ?_
      refine GL_rd (wn_none rfl) rfl (rd_len rfl rfl Tryz.underlying22) ?_
      refine GL_rd (wn_none rfl) rfl (rd_bin rfl rfl rfl bo_lss) ?_
      refine GL_nil ?_
      refine GW_cond rfl (fun hb5 => ?_) (fun hb5 => ?_)
      ·(try simp only [decide_eq_true_eq, decide_eq_false_iff_not, Bool.not_eq_true', Bool.not_eq_false', Bool.not_eq_eq_eq_not, Bool.not_true, Bool.not_false, Int.not_lt, Int.not_le] at hb5)
       obtain ⟨gT, bT, rfl⟩ := htx.addr (by rw [List.length_map]; omega)
       have hxm := getD_inL (l := b.tx) (i := i) (by omega)
       obtain ⟨Ax, cx, hsh⟩ := sl_shape (hB.txs _ hxm)
       refine GW_skip ?_
       refine GW_seq ?_
       refine GW_block ?_
       refine GW_seq ?_
       refine GW_region ?_
       refine GL_rd (wn_none rfl) rfl (rd_field rfl rfl fa25_3 _ rfl) ?_
       refine GL_rd (v := .slice _ _ _) (wn_none rfl) rfl (rd_load rfl rfl Tryz.underlying22 rfl ((cell_of_cells (hp.get 0 rfl) _).trans rfl)) ?_
       refine GL_rd (v := .int _ _) (wn_none rfl) rfl (rd_move rfl rfl) ?_
       refine GL_rd (wn_none rfl) rfl (rd_indexS (j := i) rfl rfl rfl Tryz.underlying22 ts35 rfl (by omega) _ rfl) ?_
       refine GL_rd (v := .slice _ _ _) (wn_none rfl) rfl (rd_load rfl rfl Tryz.underlying35 rfl ((htx.keep hp.mod).get _ _ (by rw [Nat.mul_one]; exact (fstL_at (L := b.tx) (i := i) (by omega)).trans (congrArg some hsh)))) ?_
       refine GL_rd (wn_none rfl) rfl (rd_len rfl rfl Tryz.underlying35) ?_
       refine GL_rd (wn_none rfl) rfl (rd_bin rfl rfl rfl bo_gtr) ?_
       refine GL_nil ?_
       refine GW_cond rfl (fun hb6 => ?_) (fun hb6 => ?_)
       ·(try simp only [decide_eq_true_eq, decide_eq_false_iff_not, Bool.not_eq_true', Bool.not_eq_false', Bool.not_eq_eq_eq_not, Bool.not_true, Bool.not_false, Int.not_lt, Int.not_le] at hb6)
        have hno := litBu_no (b := b) fun q => absurd (q.2.2.2.2 _ hxm) (by have := hb6; omega)
        refine GW_seq ?_
        refine GW_region ?_
        refine GL_rd (v := .bool _) (wn_none rfl) rfl (rd_assign rfl rfl) ?_
        refine GL_nil ?_
        refine GW_ret ?_
        exact ⟨_, res1 Tryz.results4 (rv_tmp (v := .bool _) rfl rfl), by rw [hno], hp.mods⟩
       ·(try simp only [decide_eq_true_eq, decide_eq_false_iff_not, Bool.not_eq_true', Bool.not_eq_false', Bool.not_eq_eq_eq_not, Bool.not_true, Bool.not_false, Int.not_lt, Int.not_le] at hb6)
        have hx1 := hb6
        refine GW_skip ?_
        refine GW_region ?_
        refine GL_rd (v := .int _ _) (wn_none rfl) rfl (rd_move rfl rfl) ?_
        refine GL_rd (wn_none rfl) rfl (rd_bin rfl rfl rfl (bo_add64 (by omega))) ?_
        refine GL_rd (v := .int _ _) (wn_none rfl) rfl (rd_assign rfl rfl) ?_
        refine GL_nil ?_
        have hp := ((hp.front 0 rfl).take 1)
        exact ihL0 (i + 1, _) _ _ (by simp only []; omega) ⟨_, slots2 rfl rfl, hp, by omega, htx, fun j hj => by rcases Nat.lt_succ_iff_lt_or_eq.1 hj with h | h; exact hz j h; rw [h]; omega⟩
      ·(try simp only [decide_eq_true_eq, decide_eq_false_iff_not, Bool.not_eq_true', Bool.not_eq_false', Bool.not_eq_eq_eq_not, Bool.not_true, Bool.not_false, Int.not_lt, Int.not_le] at hb5)
       refine GW_exit ?_
       refine GW_seq ?_
       refine GW_region ?_
       refine GL_rd (v := .bool _) (wn_none rfl) rfl (rd_assign rfl rfl) ?_
       refine GL_nil ?_
       refine GW_ret ?_
       have hyes : litBu b = true := litBu_iff.2 ⟨by omega, by omega, by omega, by omega, fun x hx => by obtain ⟨j, hj, rfl⟩ := getD_ex hx; exact hz j (by omega)⟩
       exact ⟨_, res1 Tryz.results4 (rv_tmp (v := .bool _) rfl rfl), by rw [hyes], hp.mods⟩
     ·refine ⟨_, slots2 rfl rfl, hp, Nat.zero_le _, htx, fun j hj => absurd hj (by omega)⟩
theorem bu_own (b : Bu) (tv av : Value) (w0 : World) (hB : BuAt b tv av w0) : Does Tryz.prog 6 #[.agg ⟨buC b tv av⟩] w0 fun v w' => v = .agg ⟨buC b tv av⟩ ∧ Hp w0 [] w' [] := by
 obtain ⟨At, ct, rfl⟩ := sl_shape hB.tx
 obtain ⟨Aa, ca, rfl⟩ := sl_shape hB.au
 have htx := hB.tx
 have hau := hB.au
 have htl := htx.le
 refine does_of (l := [.agg ⟨(buC b (.slice At b.tx.length ct) (.slice Aa b.au.length ca))⟩]) Tryz.func6 (by kernel_rfl) rfl Tryz.ntmps6 rfl rfl (by kernel_rfl) ?_
 have hp := Hp.refl w0 []
 refine GW_seq ?_
 refine GW_region ?_
 refine GL_box (wn_none rfl) rfl rfl rfl rfl hp ?_
 intro g w hp
 refine GL_alloc (wn_none rfl) rfl rfl tz28 rfl hp ?_
 intro g2 w hp
 refine GL_nil ?_
 refine GW_seq ?_
 refine GW_region ?_
 refine GL_rd (wn_none rfl) rfl (rd_field rfl rfl fa25_0 _ rfl) ?_
 refine GL_rd (wn_none rfl) rfl (rd_load rfl rfl Tryz.underlying9 rfl ((cell_of_cells (hp.get 1 rfl) _).trans rfl)) ?_
 refine GL_rd (wn_none rfl) rfl (rd_field rfl rfl fa25_1 _ rfl) ?_
 refine GL_rd (wn_none rfl) rfl (rd_load rfl rfl Tryz.underlying3 rfl ((cell_of_cells (hp.get 1 rfl) _).trans rfl)) ?_
 refine GL_rd (wn_none rfl) rfl (rd_field rfl rfl fa25_2 _ rfl) ?_
 refine GL_rd (wn_none rfl) rfl (rd_load rfl rfl Tryz.underlying9 rfl ((cell_of_cells (hp.get 1 rfl) _).trans rfl)) ?_
 refine GL_rd (wn_none rfl) rfl (rd_field rfl rfl fa25_3 _ rfl) ?_
 refine GL_rd (v := .slice _ _ _) (wn_none rfl) rfl (rd_load rfl rfl Tryz.underlying22 rfl ((cell_of_cells (hp.get 1 rfl) _).trans rfl)) ?_
 refine GL_rd (wn_none rfl) rfl (rd_field rfl rfl fa25_4 _ rfl) ?_
 refine GL_rd (v := .slice _ _ _) (wn_none rfl) rfl (rd_load rfl rfl Tryz.underlying23 rfl ((cell_of_cells (hp.get 1 rfl) _).trans rfl)) ?_
 refine GL_rd (wn_none rfl) rfl (rd_buildS (L := (buC b (.slice At b.tx.length ct) (.slice Aa b.au.length ca))) rfl tz28 pl28 (by kernel_rfl)) ?_
 refine GL_store (i := 0) (wn_none rfl) rfl rfl rfl rfl ts28 rfl rfl (oneC rfl (oneC rfl (oneC rfl (oneC rfl (oneC rfl one0))))) hp rfl (by first | exact Nat.le_of_ble_eq_true rfl | simp [bys_length, *]) rfl ?_
 intro w hp
 refine GL_nil ?_
 refine GW_ret ?_
 exact ⟨_, res1 Tryz.results6 (rv_cell rfl rfl Tryz.underlying28 rfl ts28 rfl (hp.get 0 rfl)), rfl, hp.mods⟩
theorem bu_w1 (q : List Value) (w0 : World) : Does Tryz.prog 19 #[.agg ⟨q⟩] w0 fun v w' => v = .agg ⟨rp8⟩ ∧ Hp w0 [] w' [] := by
 refine does_of (l := [.agg ⟨q⟩]) Tryz.func19 (by kernel_rfl) rfl Tryz.ntmps19 rfl rfl (by kernel_rfl) ?_
 have hp := Hp.refl w0 []
 refine GW_seq ?_
 refine GW_region ?_
 refine GL_box (wn_none rfl) rfl rfl rfl rfl hp ?_
 intro g w hp
 refine GL_alloc (wn_none rfl) rfl rfl tz54 rfl hp ?_
 intro g2 w hp
 refine GL_nil ?_
 refine GW_seq ?_
 refine GW_region ?_
 refine GL_rd (wn_none rfl) rfl (rd_buildS (L := rp8) rfl tz54 pl54 (by kernel_rfl)) ?_
 refine GL_store (i := 0) (wn_none rfl) rfl rfl rfl rfl ts54 rfl rfl (by decide) hp rfl (by first | exact Nat.le_of_ble_eq_true rfl | simp [bys_length, *]) rfl ?_
 intro w hp
 refine GL_nil ?_
 refine GW_ret ?_
 exact ⟨_, res1 Tryz.results19 (rv_cell rfl rfl Tryz.underlying54 rfl ts54 rfl (hp.get 0 rfl)), rfl, hp.mods⟩
theorem bu_Of8 (s : ByteArray) (m : Int) (w0 : World) : Does Tryz.prog 18 #[.agg ⟨bys (List.replicate 32 0)⟩, .string s, .int .i64 m, .func (.func 19) #[] #[]] w0 fun v w' => v = .tuple #[.agg ⟨buZ⟩, .int .i64 8] ∧ Hp w0 [] w' [] := by
 refine does_of (l := [.agg ⟨bys (List.replicate 32 0)⟩, .string s, .int .i64 m, .func (.func 19) #[] #[]]) Tryz.func18 (by kernel_rfl) rfl Tryz.ntmps18 rfl rfl (by kernel_rfl) ?_
 have hp := Hp.refl w0 []
 refine GW_seq ?_
 refine GW_region ?_
 refine GL_box (wn_none rfl) rfl rfl rfl rfl hp ?_
 intro g w hp
 refine GL_alloc (wn_none rfl) rfl rfl tz28 rfl hp ?_
 intro g2 w hp
 refine GL_rd (v := .int _ _) (wn_none rfl) rfl (rd_assign rfl rfl) ?_
 refine GL_nil ?_
 refine GW_seq ?_
 refine GW_region ?_
 refine GL_rd (v := .func (.func 19) #[] #[]) (wn_none rfl) rfl (rd_move rfl rfl) ?_
 refine GL_rd (wn_none rfl) rfl (rd_loadC rfl rfl Tryz.underlying30 rfl ts30 (hp.get 1 rfl) rfl) ?_
 refine GL_rd (wn_none rfl) rfl (rd_buildS (L := ([.int .i64 15, .string ⟨#[]⟩, .string ⟨#[]⟩, .string ⟨#[]⟩, .int .i64 0, .bool false, .bool false, .slice none 0 0] ++ bys (List.replicate 32 0) ++ [.slice none 0 0])) rfl tz52 pl52 (by kernel_rfl)) ?_
 refine GL_callV (wn_none rfl) rfl rfl rfl (bu_w1 _ _) rfl ?_
 rintro _ w ⟨rfl, hk⟩
 have hp := hp.comp hk
 refine GL_alloc (wn_none rfl) rfl rfl tz54 rfl hp ?_
 intro g3 w hp
 refine GL_store (i := 0) (wn_none rfl) rfl rfl rfl rfl ts54 rfl rfl (by decide) hp rfl (by first | exact Nat.le_of_ble_eq_true rfl | simp [bys_length, *]) rfl ?_
 intro w hp
 refine GL_nil ?_
 refine GW_seq ?_
 refine GW_seq ?_
 refine GW_region ?_
 refine GL_rd (wn_none rfl) rfl (rd_field rfl rfl fa54_0 _ rfl) ?_
 refine GL_rd (wn_none rfl) rfl (rd_load rfl rfl Tryz.underlying31 rfl ((cell_of_cells (hp.get 0 rfl) _).trans rfl)) ?_
 refine GL_rd (wn_none rfl) rfl (rd_bin rfl rfl rfl bo_neq) ?_
 refine GL_nil ?_
 refine GW_cond rfl (fun hb => ?_) (fun hb => ?_)
 ·(try simp only [decide_eq_true_eq, decide_eq_false_iff_not, Bool.not_eq_true', Bool.not_eq_false', Bool.not_eq_eq_eq_not, Bool.not_true, Bool.not_false, Int.not_lt, Int.not_le] at hb)
  refine GW_seq ?_
  refine GW_drawnK 5 (.one 0 true (.one 1 true (.one 2 true (.one 3 false (.one 4 true .nil))))) mixed (by kernel_rfl) hp (fun _ h => h) fun w hp => ?_
  have hpS := hp
  refine GO_rd rfl rfl (wn_none rfl) rfl hpS (fun w hp => (rd_buildS (L := buZ) rfl tz28 pl28 (by kernel_rfl))) ?_
  refine GO_rdT rfl (wn_none rfl) rfl (fun w => (rd_field rfl rfl fa54_0 _ rfl)) ?_
  refine GO_rd rfl rfl (wn_none rfl) rfl hpS (fun w hp => (rd_load rfl rfl Tryz.underlying31 rfl ((cell_of_cells (hp.get 0 rfl) _).trans rfl))) ?_
  refine GO_of_GL rfl ?_
  refine GL_store (i := 1) (wn_none rfl) rfl rfl rfl rfl ts28 rfl rfl (by decide) hp rfl (by first | exact Nat.le_of_ble_eq_true rfl | simp [bys_length, *]) rfl ?_
  intro w hp
  have hpS2 := hp
  refine GL_nil ⟨fun _ => hpS2, ?_⟩
  refine GO_rdT (v := .int _ _) rfl (wn_none rfl) rfl (fun w => (rd_assign rfl rfl)) ?_
  refine GO_nil ?_
  refine GW_ret ?_
  exact ⟨_, res2 Tryz.results18 (rv_cell rfl rfl Tryz.underlying28 rfl ts28 rfl (hp.get 1 rfl)) (rv_tmp (v := .int _ _) rfl rfl), rfl, hp.mods⟩
 ·(try simp only [decide_eq_true_eq, decide_eq_false_iff_not, Bool.not_eq_true', Bool.not_eq_false', Bool.not_eq_eq_eq_not, Bool.not_true, Bool.not_false, Int.not_lt, Int.not_le] at hb)
  exact absurd hb (by decide)
end Go.Proofs.YtpagpmioopaciaaGreat
