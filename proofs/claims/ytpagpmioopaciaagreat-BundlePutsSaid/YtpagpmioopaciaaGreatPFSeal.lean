/- Walks of functions of the program. -/
import Derived.Test.YtpagpmioopaciaaGreatPFTre
import Derived.Test.YtpagpmioopaciaaGreatPActs
import Derived.Test.YtpagpmioopaciaaGreatPTypes
import Derived.Test.YtpagpmioopaciaaGreatPHeapS
import Derived.Test.YtpagpmioopaciaaGreatPFCrc
set_option linter.unusedVariables false
set_option linter.unusedSimpArgs false
namespace Go.Proofs.YtpagpmioopaciaaGreat
open Go.Mo Go.RowKit
set_option maxHeartbeats 1000000 in
theorem tr_Root (lv : Value) (L : List (Value × List UInt8)) (w0 : World) (hL : Sl w0 lv 1 L.length (L.map Prod.fst)) (hLs : ∀ x ∈ L, Sl w0 x.1 1 x.2.length (bys x.2)) (hbd : L.length ≤ 65536 ∧ ∀ x ∈ L, x.2.length ≤ 65536) : Does Tryz.prog 22 #[lv] w0 fun v w' => v = .tuple #[.agg ⟨bys (rootV (L.map Prod.snd)).1⟩, .int .i64 (trK L.length)] ∧ Hp w0 [] w' [] := by
 obtain ⟨AL, cL, rfl⟩ := sl_shape hL
 have hLle := hL.le
 have hxl : (L.map Prod.snd).length = L.length := List.length_map _
 have hlv : (lvL 0 (L.map Prod.snd)).length = L.length := by rw [lvL_len, hxl]
 refine does_of (l := [.slice AL L.length cL]) Tryz.func22 (by kernel_rfl) rfl Tryz.ntmps22 rfl rfl (by kernel_rfl) ?_
 have hp := Hp.refl w0 []
 refine GW_seq ?_
 refine GW_region ?_
 refine GL_alloc (wn_none rfl) rfl rfl tz30 rfl hp ?_
 intro g w hp
 refine GL_rd (v := .int _ _) (wn_none rfl) rfl (rd_assign rfl rfl) ?_
 refine GL_nil ?_
 refine GW_seq ?_
 refine GW_seq ?_
 refine GW_region ?_
 refine GL_rd (v := .slice _ _ _) (wn_none rfl) rfl (rd_move rfl rfl) ?_
 refine GL_call (wn_none rfl) rfl rfl (tr_Check _ L _ (hL.keep hp.mod) (fun x hx => (hLs x hx).keep hp.mod)) rfl ?_
 rintro _ w ⟨rfl, hk⟩
 have hp := hp.comp hk
 refine GL_rd (v := .int .i64 (trK L.length)) (wn_none rfl) rfl (rd_assign rfl rfl) ?_
 refine GL_nil ?_
 refine GW_seq ?_
 refine GW_region ?_
 refine GL_rd (v := .int .i64 (trK L.length)) (wn_none rfl) rfl (rd_move rfl rfl) ?_
 refine GL_rd (wn_none rfl) rfl (rd_bin rfl rfl rfl bo_neq) ?_
 refine GL_nil ?_
 refine GW_cond rfl (fun hb => ?_) (fun hb => ?_)
 ·(try simp only [decide_eq_true_eq, decide_eq_false_iff_not, Bool.not_eq_true', Bool.not_eq_false', Bool.not_eq_eq_eq_not, Bool.not_true, Bool.not_false, Int.not_lt, Int.not_le] at hb)
  have hc := hb
  refine GW_seq ?_
  refine GW_region ?_
  refine GL_rd (wn_none rfl) rfl (rd_buildA (L := List.replicate 32 (.int .u8 0)) rfl tz30 Tryz.underlying30 ts5 (by kernel_rfl)) ?_
  refine GL_rd (v := .int .i64 (trK L.length)) (wn_none rfl) rfl (rd_move rfl rfl) ?_
  refine GL_store (i := 0) (wn_none rfl) rfl rfl rfl rfl ts30 rfl List.length_replicate (by intro u hu; rw [List.eq_of_mem_replicate hu]; rfl) hp rfl (Nat.le_of_ble_eq_true rfl) (splice_all _ _ rfl) ?_
  intro w hp
  refine GL_rd (v := .int .i64 (trK L.length)) (wn_none rfl) rfl (rd_assign rfl rfl) ?_
  refine GL_nil ?_
  refine GW_ret ?_
  have er : rootV (L.map Prod.snd) = a32Z := by rw [rootV, if_neg (by rw [hxl]; exact hc)]
  exact ⟨_, res2 Tryz.results22 (rv_cell rfl rfl Tryz.underlying30 rfl ts30 (by first | exact List.length_replicate | (rw [bys_length]; exact (rtS _ _).2)) (hp.get 0 rfl)) (rv_tmp (v := .int .i64 (trK L.length)) rfl rfl), by rw [er]; rfl, hp.mods⟩
 ·(try simp only [decide_eq_true_eq, decide_eq_false_iff_not, Bool.not_eq_true', Bool.not_eq_false', Bool.not_eq_eq_eq_not, Bool.not_true, Bool.not_false, Int.not_lt, Int.not_le] at hb)
  have hc := trK_iff.1 hb
  refine GW_skip ?_
  refine GW_seq ?_
  refine GW_region ?_
  refine GL_rd (v := .slice _ _ _) (wn_none rfl) rfl (rd_move rfl rfl) ?_
  refine GL_call (wn_none rfl) rfl rfl (tr_leaves _ L _ (hL.keep hp.mod) (fun x hx => (hLs x hx).keep hp.mod) hbd) rfl ?_
  intro v w hk
  have hp := hp.comp hk
  obtain ⟨A1, c1, rfl⟩ := row_shape (hp.get 0 rfl)
  refine GL_rd (v := .slice _ _ _) (wn_none rfl) rfl (rd_assign rfl rfl) ?_
  refine GL_nil ?_
  refine GW_seq ?_
  refine GW_block ?_
  refine GW_loop ?_
  refine Lp_ind (α := List A32 × Nat × Option Addr × Nat) (fun a_0 f_0 w' => match a_0 with | (l, n, A2, c2) => ∃ fz, f_0 = (upd (upd (upd fz 5 (.slice A2 n c2)) 0 (.slice AL L.length cL)) 2 (.pointer (some ⟨g, 0, none⟩))) ∧ Hp w0 [] w' [.row 30 32 (.slice A2 n c2) n ((l).flatMap adC), cells g 30 (List.replicate 32 (.int .u8 0))] ∧ (n = l.length) ∧ (l.length ≤ 65536) ∧ (1 ≤ l.length) ∧ (topL l = topL (lvL 0 (L.map Prod.snd)))) (fun a_0 => match a_0 with | (l, n, A2, c2) => l.length) ?_ ((lvL 0 (L.map Prod.snd)), L.length, A1, c1) _ _ ?_
  ·rintro ⟨l, n, A2, c2⟩ f wz ⟨fz, rfl, hp, hn, hl0, hl1, htp⟩ ihL0
   refine Lp_round ?_
   refine GW_seq ?_
   refine GW_seq ?_
   refine GW_region ?_
   refine GL_rd (v := .slice _ _ _) (wn_none rfl) rfl (rd_move rfl rfl) ?_
   refine GL_rd (wn_none rfl) rfl (rd_len rfl rfl Tryz.underlying50) ?_
   refine GL_rd (wn_none rfl) rfl (rd_bin rfl rfl rfl bo_gtr) ?_
   refine GL_nil ?_
   refine GW_cond rfl (fun hb2 => ?_) (fun hb2 => ?_)
   ·(try simp only [decide_eq_true_eq, decide_eq_false_iff_not, Bool.not_eq_true', Bool.not_eq_false', Bool.not_eq_eq_eq_not, Bool.not_true, Bool.not_false, Int.not_lt, Int.not_le] at hb2)
    have hlt : 1 < l.length := by omega
    have hul := upL_len l
    refine GW_skip ?_
    refine GW_block ?_
    refine GW_region ?_
    refine GL_rd (v := .slice _ _ _) (wn_none rfl) rfl (rd_move rfl rfl) ?_
    refine GL_call (wn_none rfl) rfl rfl (tr_up _ l _ (by rw [← hn]; exact Sl.row (hp.get 0 rfl)) (by omega)) rfl ?_
    intro v2 w hk
    have hp := hp.comp hk
    obtain ⟨A3, c3, rfl⟩ := row_shape (hp.get 0 rfl)
    refine GL_rd (v := .slice _ _ _) (wn_none rfl) rfl (rd_assign rfl rfl) ?_
    refine GL_nil ?_
    have hp := (((hp.front 2 rfl).front 1 rfl).take 2)
    exact ihL0 (upL l, _, _, _) _ _ (by show (upL l).length < l.length; omega) ⟨_, slots3 rfl rfl rfl, hp, rfl, by show (upL l).length ≤ _; omega, by show 1 ≤ (upL l).length; omega, (topL_up hlt).trans htp⟩
   ·(try simp only [decide_eq_true_eq, decide_eq_false_iff_not, Bool.not_eq_true', Bool.not_eq_false', Bool.not_eq_eq_eq_not, Bool.not_true, Bool.not_false, Int.not_lt, Int.not_le] at hb2)
    have hl1 : l.length = 1 := by omega
    rw [topL_one (by omega)] at htp
    obtain ⟨gV, bV, rfl⟩ := (Sl.row (hp.get 0 rfl)).addr (by rw [flat_length adC_len]; omega)
    refine GW_exit ?_
    refine GW_seq ?_
    refine GW_region ?_
    refine GL_rd (v := .slice _ _ _) (wn_none rfl) rfl (rd_move rfl rfl) ?_
    refine GL_rd (wn_none rfl) rfl (rd_len rfl rfl Tryz.underlying22) ?_
    refine GL_rd (v := .slice _ _ _) (wn_none rfl) rfl (rd_move rfl rfl) ?_
    refine GL_rd (wn_none rfl) rfl (rd_indexS (j := 0) rfl rfl rfl Tryz.underlying50 ts30 rfl (by omega) _ rfl) ?_
    refine GL_rd (wn_none rfl) rfl (rd_loadN (L := bys (topL (lvL 0 (L.map Prod.snd))).1) rfl rfl Tryz.underlying30 rfl ts30 (by rw [bys_length]; exact (topL _).2) (fun j u hj => by rw [← htp] at hj; exact (Sl.row (hp.get 0 rfl)).elem adC_len 0 j (by have := (List.getElem?_eq_some_iff.1 hj).1; rwa [bys_length, (adAt l 0).2] at this) (adAt_some (by omega)) hj)) ?_
    refine GL_call (wn_none rfl) rfl rfl (tr_crown L.length (topL (lvL 0 (L.map Prod.snd))) _ (by omega)) rfl ?_
    rintro _ w ⟨rfl, hk⟩
    have hp := hp.comp hk
    refine GL_store (i := 1) (wn_none rfl) rfl rfl rfl rfl ts30 rfl (by rw [bys_length]; exact (rtS L.length (topL (lvL 0 (L.map Prod.snd)))).2) (bys_one _) hp rfl (Nat.le_of_ble_eq_true rfl) (splice_all _ _ (by rw [bys_length]; exact (rtS L.length (topL (lvL 0 (L.map Prod.snd)))).2.trans rfl)) ?_
    intro w hp
    refine GL_rd (v := .int _ _) (wn_none rfl) rfl (rd_assign rfl rfl) ?_
    refine GL_nil ?_
    refine GW_ret ?_
    have er : rootV (L.map Prod.snd) = rootL (L.map Prod.snd) := by rw [rootV, if_pos (by rw [hxl]; exact trK_iff.2 hc)]
    have ec : trK L.length = 0 := trK_iff.2 hc
    exact ⟨_, res2 Tryz.results22 (rv_cell rfl rfl Tryz.underlying30 rfl ts30 (by first | exact List.length_replicate | (rw [bys_length]; exact (rtS _ _).2)) (hp.get 1 rfl)) (rv_tmp (v := .int _ _) rfl rfl), by rw [er, ec, rootL, hxl], hp.mods⟩
  ·have hp := (((hp.front 1 rfl).front 1 rfl).take 2)
   refine ⟨_, slots3 rfl rfl rfl, hp, by rw [hlv], by rw [hlv]; omega, by rw [hlv]; omega, rfl⟩
end Go.Proofs.YtpagpmioopaciaaGreat
set_option linter.unusedVariables false
set_option linter.unusedSimpArgs false
namespace Go.Proofs.YtpagpmioopaciaaGreat
open Go.Mo Go.RowKit
end Go.Proofs.YtpagpmioopaciaaGreat
