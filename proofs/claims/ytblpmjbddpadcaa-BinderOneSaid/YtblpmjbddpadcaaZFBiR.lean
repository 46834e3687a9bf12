/- Walks of functions of the program. -/
import Derived.Test.YtblpmjbddpadcaaZFBiG
set_option linter.unusedVariables false
set_option linter.unusedSimpArgs false
namespace Go.Proofs.Ytblpmjbddpadcaa
open Go.Mo Go.RowKit
set_option maxHeartbeats 1000000 in
theorem bi_read (p : Nat) (b0 : Value) (l : List UInt8) (w0 : World) (hg : (cells p 226 [b0, .bool false]).at_ w0) (hB : ∀ w', Mod [p] w0 w' → Sl w' b0 1 l.length (bys l)) (hl : l.length ≤ 4294967296) : Does Try.prog 132 #[.pointer (some ⟨p, 0, none⟩)] w0 fun v w' => ∃ hv tv, v = .tuple #[.agg ⟨clipC (rV l) hv tv⟩, .bool (rOk l)] ∧ Hp w0 [p] w' [.row 3 1 tv (rV l).texts.length ((rV l).texts.map (Value.int .i64)), .row 9 1 hv (rV l).holds.length ((rV l).holds.map Value.string)] := by
 have hnH : (nH l : Int) = min (sN (k7 l) 1 : Int) 5 := by unfold nH; omega
 have hnT : (nT l : Int) = min (sN (k9 l) 1 : Int) 5 := by unfold nT; omega
 have hH5 : nH l ≤ 5 := by unfold nH; omega
 have hT5 : nT l ≤ 5 := by unfold nT; omega
 refine does_of (l := [.pointer (some ⟨p, 0, none⟩)]) Try.func132 (by kernel_rfl) rfl Try.ntmps132 rfl rfl ?_
 have hp := Hp.one hg
 refine GW_seq ?_
 refine GW_region ?_
 refine GL_alloc (wn_none rfl) rfl rfl tz83 rfl hp ?_
 intro g w hp
 refine GL_rd (v := .bool _) (wn_none rfl) rfl (rd_assign rfl rfl) ?_
 refine GL_nil ?_
 refine GW_seq ?_
 refine GW_seq ?_
 refine GW_region ?_
 refine GL_rd (v := .pointer (some ⟨_, _, none⟩)) (wn_none rfl) rfl (rd_move rfl rfl) ?_
 refine GL_call (wn_none rfl) rfl rfl (cur_Bytes p _ (l) (false) 4 _ (hp.get 1 rfl) (fun w' h => (hB w' (hp.modAt 1 rfl h))) hl) rfl ?_
 rintro v w ⟨bv, hsuf, hk⟩
 have hp := hp.turnAtMore 1 rfl hk
 obtain ⟨Av, cv, rfl⟩ := row_shape (hp.get 0 rfl)
 refine GL_rd (wn_none rfl) rfl (rd_toStr rfl rfl Try.underlying39 Try.underlying9 Try.underlying5 (Sl.row (hp.get 0 rfl))) ?_
 refine GL_rd (wn_none rfl) rfl (rd_bin rfl rfl rfl bo_sneq) ?_
 refine GL_nil ?_
 refine GW_cond rfl (fun hb => ?_) (fun hb => ?_)
 ·(try simp only [decide_eq_true_eq, decide_eq_false_iff_not, Bool.not_eq_true', Bool.not_eq_false', Bool.not_eq_eq_eq_not, Bool.not_true, Bool.not_false, Int.not_lt, Int.not_le] at hb)
  have ht : rTag l = false := by rw [rTag]; exact decide_eq_false (fun e => hb (by rw [e]))
  refine GW_seq ?_
  refine GW_region ?_
  refine GL_rd (wn_none rfl) rfl (rd_buildS (L := clpZc) rfl tz83 pl83 (by kernel_rfl)) ?_
  refine GL_store (i := 2) (wn_none rfl) rfl rfl rfl rfl ts83 rfl rfl (by rw [clpZ_c]; exact clipC_one _ _ _ _ _ _ _) hp rfl (by decide) (splice_all _ _ rfl) ?_
  intro w hp
  refine GL_rd (v := .bool _) (wn_none rfl) rfl (rd_assign rfl rfl) ?_
  refine GL_nil ?_
  refine GW_ret ?_
  refine ⟨_, res2 Try.results132 (rv_cell rfl rfl Try.underlying83 rfl ts83 (by first | exact clipC_len _ _ _ | rfl) (hp.get 2 rfl)) (rv_tmp (v := .bool _) rfl rfl), .slice none 0 0, .slice none 0 0, by rw [rV_no ht, rOk_no ht, ← clpZ_c], ?_⟩
  rw [rV_no ht]
  exact (hp.mods.nilRow 9 1).nilRow 3 1
 ·(try simp only [decide_eq_true_eq, decide_eq_false_iff_not, Bool.not_eq_true', Bool.not_eq_false', Bool.not_eq_eq_eq_not, Bool.not_true, Bool.not_false, Int.not_lt, Int.not_le] at hb)
  have ht : rTag l = true := by rw [rTag]; exact decide_eq_true (congrArg (fun z : ByteArray => z.data.toList) hb)
  refine GW_skip ?_
  refine GW_cut (fun f_0 w' => ∃ (g4 : Nat) (bc : Value) (fz : _), f_0 = (upd (upd (upd fz 0 (.pointer (some ⟨p, 0, none⟩))) 2 (.pointer (some ⟨g, 0, none⟩))) 4 (.pointer (some ⟨g4, 0, none⟩))) ∧ Hp w0 [p] w' [cells g4 83 (clipC { clpZ with addr := rA l, cls := sN (k2 l) 1, made := sN (k3 l) 6 } (.slice none 0 0) (.slice none 0 0)), cells p 226 [bc, .bool (k4 l).1], cells g 83 clpZc] ∧ (Suf b0 l bc (k4 l).2)) ?_ ?_
  ·skip
   refine GW_drawnK 12 (.one 0 true (.one 4 true (.one 7 true (.two 1 11 (.one 2 true (.one 3 true (.two 5 11 (.one 6 true (.two 8 11 (.one 9 true (.one 10 true (.one 11 false (.one 12 false .nil)))) (.one 8 false (.one 9 true (.one 10 true (.one 12 false .nil)))))) (.one 5 false (.one 6 true (.one 8 false (.one 9 true (.one 10 true (.one 12 false .nil))))))))) (.one 1 false (.one 2 true (.one 3 true (.one 5 false (.one 6 true (.one 8 false (.one 9 true (.one 10 true (.one 12 false .nil))))))))))))) mixed (by kernel_rfl) hp (fun _ h => h.mods) fun w hp => ?_
   have hpS := hp.mods
   refine GO_rdT (v := .pointer (some ⟨_, _, none⟩)) rfl (wn_none rfl) rfl (fun w => (rd_move rfl rfl)) ?_
   refine GO_rdT (v := .pointer (some ⟨_, _, none⟩)) rfl (wn_none rfl) rfl (fun w => (rd_move rfl rfl)) ?_
   refine GO_rdT (v := .pointer (some ⟨_, _, none⟩)) rfl (wn_none rfl) rfl (fun w => (rd_move rfl rfl)) ?_
   refine GO_two rfl rfl ?_ ?_
   ·skip
    refine GC_of_GL ?_
    refine GL_call (wn_none rfl) rfl rfl (cur_Bytes p _ ((k1 l).2) ((k1 l).1) 32 _ (hp.get 1 rfl) (fun w' h => (hsuf w' (hB w' (hp.modAt 1 rfl h)))) (by have hk := k_le hl; exact hk.1)) rfl ?_
    rintro v2 w ⟨bv2, hsuf2, hk⟩
    have hp := hp.turnAtMore 1 rfl hk
    obtain ⟨Av2, cv2, rfl⟩ := row_shape (hp.get 0 rfl)
    have hc32 := curOut_len (k1 l).1 (k1 l).2 32 (by decide)
    obtain ⟨gB, bB, rfl⟩ := (Sl.row (hp.get 0 rfl)).addr (by rw [bys_length]; exact Nat.lt_of_lt_of_eq (by decide : 0 < 32) hc32.symm)
    have hpS2 := hp.mods
    refine GL_nil ⟨fun _ => hpS2, ?_⟩
    refine GO_grow hp (fun _ h => (h.sub (.cons_cons _ (.cons _ (.cons _ (.cons _ .slnil)))))) (fun _ h => h.mods) fun hpS3 => ?_
    refine GO_rd (v := _) rfl rfl (wn_none rfl) rfl hpS3 (fun w hp => (rd_toArr rfl rfl Try.underlying57 (Nat.le_of_eq hc32.symm))) ?_
    refine GO_rd rfl rfl (wn_none rfl) rfl hpS3 (fun w hp => (rd_loadN (L := bys (rA l).1) rfl rfl Try.underlying57 rfl ts57 (by rw [bys_length]; exact (rA l).2) (fun j u hj => (Sl.row (hp.get 0 rfl)).get j u hj))) ?_
    refine GO_two rfl rfl ?_ ?_
    ·skip
     refine GC_of_GL ?_
     refine GL_call (wn_none rfl) rfl rfl (cur_Num p _ ((k2 l).2) ((k2 l).1) 1 _ (hp.get 1 rfl) (fun w' h => (hsuf2 w' (hsuf w' (hB w' (hp.modAt 1 rfl h))))) (by have hk := k_le hl; exact hk.2.1)) rfl ?_
     rintro _ w ⟨bv3, hsuf3, rfl, hk⟩
     have hp := hp.turnAtMore 1 rfl hk
     have hpS4 := (hp.sub (.cons _ (.cons_cons _ (.cons _ (.cons _ .slnil)))))
     refine GL_nil ⟨fun _ => hpS4, ?_⟩
     refine GO_rd rfl rfl (wn_none rfl) rfl hpS4 (fun w hp => (rd_convE (q := (sN (k2 l) 1 : Int)) rfl rfl Try.underlying3 Try.underlying160 (by simp) (IntWalk.i64_in _ (by have := sN1 (k2 l); omega)))) ?_
     refine GO_two rfl rfl ?_ ?_
     ·skip
      refine GC_of_GL ?_
      refine GL_call (wn_none rfl) rfl rfl (cur_Num p _ ((k3 l).2) ((k3 l).1) 6 _ (hp.get 0 rfl) (fun w' h => (hsuf3 w' (hsuf2 w' (hsuf w' (hB w' (hp.modAt 0 rfl h)))))) (by have hk := k_le hl; exact hk.2.2.1)) rfl ?_
      rintro _ w ⟨bv4, hsuf4, rfl, hk⟩
      have hp := hp.turnAtMore 0 rfl hk
      have hpS5 := (hp.sub (.cons _ (.cons_cons _ (.cons _ (.cons _ .slnil)))))
      refine GL_nil ⟨fun _ => hpS5, ?_⟩
      refine GO_rd rfl rfl (wn_none rfl) rfl hpS5 (fun w hp => (rd_convE (q := (sN (k3 l) 6 : Int)) rfl rfl Try.underlying3 Try.underlying160 (by simp) (IntWalk.i64_in _ (by have := sN6 (k3 l); omega)))) ?_
      refine GO_rd rfl rfl (wn_none rfl) rfl hpS5 (fun w hp => (rd_buildF (L := (clipC { clpZ with addr := rA l, cls := sN (k2 l) 1, made := sN (k3 l) 6 } (.slice none 0 0) (.slice none 0 0))) rfl tz83 pl83 rfl (fill_more 0 32 rfl rfl (by rw [bys_length]; exact (rA l).2) (by decide) (clip_set0 (rA l)) (fill_more 32 1 rfl rfl rfl (by rw [clipC_len]; decide) (clip_setC _ _ _ _) (fill_more 33 1 rfl rfl rfl (by rw [clipC_len]; decide) (clip_setM _ _ _ _) (fill_done rfl)))))) ?_
      refine GO_of_GL rfl ?_
      refine GL_alloc (wn_none rfl) rfl rfl tz83 rfl hp ?_
      intro g2 w hp
      have hpS6 := (hp.sub (.cons _ (.cons _ (.cons_cons _ (.cons _ (.cons _ .slnil))))))
      refine GL_nil ⟨fun _ => hpS6, ?_⟩
      refine GO_of_GL rfl ?_
      refine GL_store (i := 0) (wn_none rfl) rfl rfl rfl rfl ts83 rfl (clipC_len _ _ _) (clipC_one _ _ _ _ _ _ _) hp rfl (by decide) (splice_all _ _ (by rw [clipC_len]; rfl)) ?_
      intro w hp
      refine GL_nil ⟨fun h => absurd h (by decide), ?_⟩
      refine GO_nil ?_
      have hp := ((((hp.front 4 rfl).front 2 rfl).front 2 rfl).take 3)
      exact ⟨g2, bv4, _, slots3 rfl rfl rfl, hp, (hsuf.trans (hsuf2.trans (hsuf3.trans hsuf4)))⟩
     ·skip
      refine GC_of_GL ?_
      refine GL_alloc (wn_none rfl) rfl rfl tz83 rfl hp ?_
      intro g3 w hp
      have hpS7 := (hp.sub (.cons _ (.cons _ (.cons_cons _ (.cons _ (.cons _ .slnil))))))
      refine GL_nil ⟨fun _ => hpS7, ?_⟩
      refine GO_of_GL rfl ?_
      refine GL_call (wn_none rfl) rfl rfl (cur_Num p _ ((k3 l).2) ((k3 l).1) 6 _ (hp.get 1 rfl) (fun w' h => (hsuf3 w' (hsuf2 w' (hsuf w' (hB w' (hp.modAt 1 rfl h)))))) (by have hk := k_le hl; exact hk.2.2.1)) rfl ?_
      rintro _ w ⟨bv5, hsuf5, rfl, hk⟩
      have hp := hp.turnAtMore 1 rfl hk
      have hpS8 := (hp.sub (.cons _ (.cons _ (.cons_cons _ (.cons _ (.cons _ .slnil))))))
      refine GL_nil ⟨fun _ => hpS8, ?_⟩
      refine GO_rd rfl rfl (wn_none rfl) rfl hpS8 (fun w hp => (rd_convE (q := (sN (k3 l) 6 : Int)) rfl rfl Try.underlying3 Try.underlying160 (by simp) (IntWalk.i64_in _ (by have := sN6 (k3 l); omega)))) ?_
      refine GO_rd rfl rfl (wn_none rfl) rfl hpS8 (fun w hp => (rd_buildF (L := (clipC { clpZ with addr := rA l, cls := sN (k2 l) 1, made := sN (k3 l) 6 } (.slice none 0 0) (.slice none 0 0))) rfl tz83 pl83 rfl (fill_more 0 32 rfl rfl (by rw [bys_length]; exact (rA l).2) (by decide) (clip_set0 (rA l)) (fill_more 32 1 rfl rfl rfl (by rw [clipC_len]; decide) (clip_setC _ _ _ _) (fill_more 33 1 rfl rfl rfl (by rw [clipC_len]; decide) (clip_setM _ _ _ _) (fill_done rfl)))))) ?_
      refine GO_of_GL rfl ?_
      refine GL_store (i := 1) (wn_none rfl) rfl rfl rfl rfl ts83 rfl (clipC_len _ _ _) (clipC_one _ _ _ _ _ _ _) hp rfl (by decide) (splice_all _ _ (by rw [clipC_len]; rfl)) ?_
      intro w hp
      refine GL_nil ⟨fun h => absurd h (by decide), ?_⟩
      refine GO_nil ?_
      have hp := ((((hp.front 4 rfl).front 1 rfl).front 2 rfl).take 3)
      exact ⟨g3, bv5, _, slots3 rfl rfl rfl, hp, (hsuf.trans (hsuf2.trans (hsuf3.trans hsuf5)))⟩
    ·skip
     refine GC_of_GL ?_
     refine GL_alloc (wn_none rfl) rfl rfl tz83 rfl hp ?_
     intro g4 w hp
     have hpS9 := (hp.sub (.cons _ (.cons_cons _ (.cons _ (.cons _ (.cons _ .slnil))))))
     refine GL_nil ⟨fun _ => hpS9, ?_⟩
     refine GO_of_GL rfl ?_
     refine GL_call (wn_none rfl) rfl rfl (cur_Num p _ ((k2 l).2) ((k2 l).1) 1 _ (hp.get 2 rfl) (fun w' h => (hsuf2 w' (hsuf w' (hB w' (hp.modAt 2 rfl h))))) (by have hk := k_le hl; exact hk.2.1)) rfl ?_
     rintro _ w ⟨bv6, hsuf6, rfl, hk⟩
     have hp := hp.turnAtMore 2 rfl hk
     have hpS10 := (hp.sub (.cons _ (.cons _ (.cons_cons _ (.cons _ (.cons _ .slnil))))))
     refine GL_nil ⟨fun _ => hpS10, ?_⟩
     refine GO_rd rfl rfl (wn_none rfl) rfl hpS10 (fun w hp => (rd_convE (q := (sN (k2 l) 1 : Int)) rfl rfl Try.underlying3 Try.underlying160 (by simp) (IntWalk.i64_in _ (by have := sN1 (k2 l); omega)))) ?_
     refine GO_of_GL rfl ?_
     refine GL_call (wn_none rfl) rfl rfl (cur_Num p _ ((k3 l).2) ((k3 l).1) 6 _ (hp.get 0 rfl) (fun w' h => (hsuf6 w' (hsuf2 w' (hsuf w' (hB w' (hp.modAt 0 rfl h)))))) (by have hk := k_le hl; exact hk.2.2.1)) rfl ?_
     rintro _ w ⟨bv7, hsuf7, rfl, hk⟩
     have hp := hp.turnAtMore 0 rfl hk
     have hpS11 := (hp.sub (.cons _ (.cons _ (.cons_cons _ (.cons _ (.cons _ .slnil))))))
     refine GL_nil ⟨fun _ => hpS11, ?_⟩
     refine GO_rd rfl rfl (wn_none rfl) rfl hpS11 (fun w hp => (rd_convE (q := (sN (k3 l) 6 : Int)) rfl rfl Try.underlying3 Try.underlying160 (by simp) (IntWalk.i64_in _ (by have := sN6 (k3 l); omega)))) ?_
     refine GO_rd rfl rfl (wn_none rfl) rfl hpS11 (fun w hp => (rd_buildF (L := (clipC { clpZ with addr := rA l, cls := sN (k2 l) 1, made := sN (k3 l) 6 } (.slice none 0 0) (.slice none 0 0))) rfl tz83 pl83 rfl (fill_more 0 32 rfl rfl (by rw [bys_length]; exact (rA l).2) (by decide) (clip_set0 (rA l)) (fill_more 32 1 rfl rfl rfl (by rw [clipC_len]; decide) (clip_setC _ _ _ _) (fill_more 33 1 rfl rfl rfl (by rw [clipC_len]; decide) (clip_setM _ _ _ _) (fill_done rfl)))))) ?_
     refine GO_of_GL rfl ?_
     refine GL_store (i := 1) (wn_none rfl) rfl rfl rfl rfl ts83 rfl (clipC_len _ _ _) (clipC_one _ _ _ _ _ _ _) hp rfl (by decide) (splice_all _ _ (by rw [clipC_len]; rfl)) ?_
     intro w hp
     refine GL_nil ⟨fun h => absurd h (by decide), ?_⟩
     refine GO_nil ?_
     have hp := ((((hp.front 4 rfl).front 1 rfl).front 2 rfl).take 3)
     exact ⟨g4, bv7, _, slots3 rfl rfl rfl, hp, (hsuf.trans (hsuf2.trans (hsuf6.trans hsuf7)))⟩
   ·skip
    refine GC_of_GL ?_
    refine GL_alloc (wn_none rfl) rfl rfl tz83 rfl hp ?_
    intro g5 w hp
    have hpS12 := hp.mods
    refine GL_nil ⟨fun _ => hpS12, ?_⟩
    refine GO_of_GL rfl ?_
    refine GL_call (wn_none rfl) rfl rfl (cur_Bytes p _ ((k1 l).2) ((k1 l).1) 32 _ (hp.get 2 rfl) (fun w' h => (hsuf w' (hB w' (hp.modAt 2 rfl h)))) (by have hk := k_le hl; exact hk.1)) rfl ?_
    rintro v8 w ⟨bv8, hsuf8, hk⟩
    have hp := hp.turnAtMore 2 rfl hk
    obtain ⟨Av8, cv8, rfl⟩ := row_shape (hp.get 0 rfl)
    have hc32 := curOut_len (k1 l).1 (k1 l).2 32 (by decide)
    obtain ⟨gB, bB, rfl⟩ := (Sl.row (hp.get 0 rfl)).addr (by rw [bys_length]; exact Nat.lt_of_lt_of_eq (by decide : 0 < 32) hc32.symm)
    have hpS13 := hp.mods
    refine GL_nil ⟨fun _ => hpS13, ?_⟩
    refine GO_grow hp (fun _ h => (h.sub (.cons_cons _ (.cons _ (.cons _ (.cons _ (.cons _ .slnil))))))) (fun _ h => h.mods) fun hpS14 => ?_
    refine GO_rd (v := _) rfl rfl (wn_none rfl) rfl hpS14 (fun w hp => (rd_toArr rfl rfl Try.underlying57 (Nat.le_of_eq hc32.symm))) ?_
    refine GO_rd rfl rfl (wn_none rfl) rfl hpS14 (fun w hp => (rd_loadN (L := bys (rA l).1) rfl rfl Try.underlying57 rfl ts57 (by rw [bys_length]; exact (rA l).2) (fun j u hj => (Sl.row (hp.get 0 rfl)).get j u hj))) ?_
    refine GO_of_GL rfl ?_
    refine GL_call (wn_none rfl) rfl rfl (cur_Num p _ ((k2 l).2) ((k2 l).1) 1 _ (hp.get 1 rfl) (fun w' h => (hsuf8 w' (hsuf w' (hB w' (hp.modAt 1 rfl h))))) (by have hk := k_le hl; exact hk.2.1)) rfl ?_
    rintro _ w ⟨bv9, hsuf9, rfl, hk⟩
    have hp := hp.turnAtMore 1 rfl hk
    have hpS15 := (hp.sub (.cons _ (.cons_cons _ (.cons _ (.cons _ (.cons _ .slnil))))))
    refine GL_nil ⟨fun _ => hpS15, ?_⟩
    refine GO_rd rfl rfl (wn_none rfl) rfl hpS15 (fun w hp => (rd_convE (q := (sN (k2 l) 1 : Int)) rfl rfl Try.underlying3 Try.underlying160 (by simp) (IntWalk.i64_in _ (by have := sN1 (k2 l); omega)))) ?_
    refine GO_of_GL rfl ?_
    refine GL_call (wn_none rfl) rfl rfl (cur_Num p _ ((k3 l).2) ((k3 l).1) 6 _ (hp.get 0 rfl) (fun w' h => (hsuf9 w' (hsuf8 w' (hsuf w' (hB w' (hp.modAt 0 rfl h)))))) (by have hk := k_le hl; exact hk.2.2.1)) rfl ?_
    rintro _ w ⟨bv10, hsuf10, rfl, hk⟩
    have hp := hp.turnAtMore 0 rfl hk
    have hpS16 := (hp.sub (.cons _ (.cons_cons _ (.cons _ (.cons _ (.cons _ .slnil))))))
    refine GL_nil ⟨fun _ => hpS16, ?_⟩
    refine GO_rd rfl rfl (wn_none rfl) rfl hpS16 (fun w hp => (rd_convE (q := (sN (k3 l) 6 : Int)) rfl rfl Try.underlying3 Try.underlying160 (by simp) (IntWalk.i64_in _ (by have := sN6 (k3 l); omega)))) ?_
    refine GO_rd rfl rfl (wn_none rfl) rfl hpS16 (fun w hp => (rd_buildF (L := (clipC { clpZ with addr := rA l, cls := sN (k2 l) 1, made := sN (k3 l) 6 } (.slice none 0 0) (.slice none 0 0))) rfl tz83 pl83 rfl (fill_more 0 32 rfl rfl (by rw [bys_length]; exact (rA l).2) (by decide) (clip_set0 (rA l)) (fill_more 32 1 rfl rfl rfl (by rw [clipC_len]; decide) (clip_setC _ _ _ _) (fill_more 33 1 rfl rfl rfl (by rw [clipC_len]; decide) (clip_setM _ _ _ _) (fill_done rfl)))))) ?_
    refine GO_of_GL rfl ?_
    refine GL_store (i := 2) (wn_none rfl) rfl rfl rfl rfl ts83 rfl (clipC_len _ _ _) (clipC_one _ _ _ _ _ _ _) hp rfl (by decide) (splice_all _ _ (by rw [clipC_len]; rfl)) ?_
    intro w hp
    refine GL_nil ⟨fun h => absurd h (by decide), ?_⟩
    refine GO_nil ?_
    have hp := ((((hp.front 4 rfl).front 1 rfl).front 3 rfl).take 3)
    exact ⟨g5, bv10, _, slots3 rfl rfl rfl, hp, (hsuf.trans (hsuf8.trans (hsuf9.trans hsuf10)))⟩
  ·rintro f w ⟨g4, bc, fz, rfl, hp, hsufC⟩
   refine GW_seq ?_
   refine GW_region ?_
   refine GL_rd (v := .pointer (some ⟨_, _, none⟩)) (wn_none rfl) rfl (rd_move rfl rfl) ?_
   refine GL_call (wn_none rfl) rfl rfl (cur_Num p _ ((k4 l).2) ((k4 l).1) 1 _ (hp.get 1 rfl) (fun w' h => (hsufC w' (hB w' (hp.modAt 1 rfl h)))) (by have hk := k_le hl; exact hk.2.2.2.1)) rfl ?_
   rintro _ w ⟨bv11, hsuf11, rfl, hk⟩
   have hp := hp.turnAtMore 1 rfl hk
   refine GL_rd (v := .int _ _) (wn_none rfl) rfl (rd_assign rfl rfl) ?_
   refine GL_nil ?_
   refine GW_seq ?_
   refine GW_region ?_
   refine GL_rd (v := .int _ _) (wn_none rfl) rfl (rd_move rfl rfl) ?_
   refine GL_rd (wn_none rfl) rfl (rd_bin rfl rfl rfl bo_eql) ?_
   refine GL_rd (v := .pointer (some ⟨_, _, none⟩)) (wn_none rfl) rfl (rd_move rfl rfl) ?_
   refine GL_call (wn_none rfl) rfl rfl (cur_Num p _ ((k5 l).2) ((k5 l).1) 6 _ (hp.get 0 rfl) (fun w' h => (hsuf11 w' (hsufC w' (hB w' (hp.modAt 0 rfl h))))) (by have hk := k_le hl; exact hk.2.2.2.2.1)) rfl ?_
   rintro _ w ⟨bv12, hsuf12, rfl, hk⟩
   have hp := hp.turnAtMore 0 rfl hk
   refine GL_rd (wn_none rfl) rfl (rd_convE (q := (sN (k5 l) 6 : Int)) rfl rfl Try.underlying3 Try.underlying160 (by simp) (IntWalk.i64_in _ (by have := sN6 (k5 l); omega))) ?_
   refine GL_rd (v := .pointer (some ⟨_, _, none⟩)) (wn_none rfl) rfl (rd_move rfl rfl) ?_
   refine GL_call (wn_none rfl) rfl rfl (cur_Text p _ ((k6 l).2) ((k6 l).1) 32 _ (hp.get 0 rfl) (fun w' h => (hsuf12 w' (hsuf11 w' (hsufC w' (hB w' (hp.modAt 0 rfl h)))))) (by have hk := k_le hl; exact hk.2.2.2.2.2.1)) rfl ?_
   rintro _ w ⟨bv13, hsuf13, rfl, hk⟩
   have hp := hp.turnAtMore 0 rfl hk
   refine GL_rd (wn_none rfl) rfl (rd_field rfl rfl fa83_3 _ rfl) ?_
   refine GL_store (i := 1) (wn_none rfl) rfl rfl rfl rfl ts4 rfl rfl (one1 rfl) hp rfl (by rw [clipC_len]; decide) (clip_setF _ _ _ _) ?_
   intro w hp
   refine GL_rd (wn_none rfl) rfl (rd_field rfl rfl fa83_4 _ rfl) ?_
   refine GL_store (i := 1) (wn_none rfl) rfl rfl rfl rfl ts3 rfl rfl (one1 rfl) hp rfl (by rw [clipC_len]; decide) (clip_setE _ _ _ _) ?_
   intro w hp
   refine GL_rd (wn_none rfl) rfl (rd_field rfl rfl fa83_6 _ rfl) ?_
   refine GL_store (i := 1) (wn_none rfl) rfl rfl rfl rfl ts9 rfl rfl (one1 rfl) hp rfl (by rw [clipC_len]; decide) (clip_setN _ _ _ _) ?_
   intro w hp
   refine GL_nil ?_
   refine GW_seq ?_
   refine GW_seq ?_
   refine GW_region ?_
   refine GL_rd (v := .pointer (some ⟨_, _, none⟩)) (wn_none rfl) rfl (rd_move rfl rfl) ?_
   refine GL_call (wn_none rfl) rfl rfl (cur_Num p _ ((k7 l).2) ((k7 l).1) 1 _ (hp.get 0 rfl) (fun w' h => (hsuf13 w' (hsuf12 w' (hsuf11 w' (hsufC w' (hB w' (hp.modAt 0 rfl h))))))) (by have hk := k_le hl; exact hk.2.2.2.2.2.2.1)) rfl ?_
   rintro _ w ⟨bv14, hsuf14, rfl, hk⟩
   have hp := hp.turnAtMore 0 rfl hk
   refine GL_rd (wn_none rfl) rfl (rd_convE (q := (sN (k7 l) 1 : Int)) rfl rfl Try.underlying3 Try.underlying160 (by simp) (IntWalk.i64_in _ (by have := sN1 (k7 l); omega))) ?_
   refine GL_rd (wn_none rfl) rfl (rd_min rfl rfl rfl) ?_
   refine GL_rd (v := .int _ _) (wn_none rfl) rfl (rd_move rfl rfl) ?_
   refine GL_nil ?_
   refine GW_block ?_
   refine GW_loop ?_
   refine Lp_ind (α := Nat × Value × Value) (fun a_0 f_0 w' => match a_0 with | (i, v, bc) => ∃ fz, f_0 = (upd (upd (upd (upd (upd (upd fz 0 (.pointer (some ⟨p, 0, none⟩))) 2 (.pointer (some ⟨g, 0, none⟩))) 4 (.pointer (some ⟨g4, 0, none⟩))) 5 (.int .u64 (sN (k4 l) 1 : Int))) 37 (.int .i64 (min (sN (k7 l) 1 : Int) 5))) 38 (.int .i64 (i : Int))) ∧ Hp w0 [p] w' [.row 9 1 v i ((txRun (k8 l) i).1.map Value.string), cells g4 83 (clipC { clpZ with addr := rA l, cls := sN (k2 l) 1, made := sN (k3 l) 6, fired := decide ((sN (k4 l) 1 : Int) = 1), event := sN (k5 l) 6, note := sX (k6 l) 32 } v (.slice none 0 0)), cells p 226 [bc, .bool (txRun (k8 l) i).2.1], cells g 83 clpZc] ∧ (i ≤ nH l) ∧ (Suf b0 l bc (txRun (k8 l) i).2.2)) (fun a_0 => match a_0 with | (i, v, bc) => nH l - i) ?_ (0, .slice none 0 0, bv14) _ _ ?_
   ·rintro ⟨i, v, bc⟩ f wz ⟨fz, rfl, hp, hi0, hsufL⟩ ihL0
    refine Lp_round ?_
    refine GW_seq ?_
    refine GW_region ?_
    refine GL_rd (wn_none rfl) rfl (rd_bin rfl rfl rfl bo_lss) ?_
    refine GL_nil ?_
    refine GW_seq ?_
    refine GW_cond rfl (fun hb2 => ?_) (fun hb2 => ?_)
    ·(try simp only [decide_eq_true_eq, decide_eq_false_iff_not, Bool.not_eq_true', Bool.not_eq_false', Bool.not_eq_eq_eq_not, Bool.not_true, Bool.not_false, Int.not_lt, Int.not_le] at hb2)
     refine GW_skip ?_
     refine GW_seq ?_
     refine GW_block ?_
     refine GW_drawnK 7 (.one 0 true (.one 1 true (.one 2 true (.one 3 false (.one 4 false (.one 5 false (.one 6 true (.one 7 false .nil)))))))) mixed (by kernel_rfl) hp (fun _ h => (h.sub (.cons _ (.cons_cons _ (.cons _ (.cons _ .slnil)))))) fun w hp => ?_
     have hpS17 := (hp.sub (.cons _ (.cons_cons _ (.cons _ (.cons _ .slnil)))))
     refine GO_rdT rfl (wn_none rfl) rfl (fun w => (rd_field rfl rfl fa83_5 _ rfl)) ?_
     refine GO_rd rfl rfl (wn_none rfl) rfl hpS17 (fun w hp => (rd_load rfl rfl Try.underlying40 rfl ((cell_of_cells (hp.get 0 rfl) _).trans (clip_holds _ _ _)))) ?_
     refine GO_rdT (v := .pointer (some ⟨_, _, none⟩)) rfl (wn_none rfl) rfl (fun w => (rd_move rfl rfl)) ?_
     refine GO_of_GL rfl ?_
     refine GL_call (wn_none rfl) rfl rfl (cur_Text p _ ((txRun (k8 l) i).2.2) ((txRun (k8 l) i).2.1) 16 _ (hp.get 2 rfl) (fun w' h => (hsufL w' (hB w' (hp.modAt 2 rfl h)))) (txRun_le (by have hk := k_le hl; exact hk.2.2.2.2.2.2.2.1) _)) rfl ?_
     rintro _ w ⟨bv15, hsuf15, rfl, hk⟩
     have hp := hp.turnAtMore 2 rfl hk
     have hpS18 := (hp.sub (.cons _ (.cons _ (.cons_cons _ (.cons _ .slnil)))))
     refine GL_nil ⟨fun _ => hpS18, ?_⟩
     refine GO_of_GL rfl ?_
     refine GL_lit (L := [.string (sX (txRun (k8 l) i).2 16)]) (wn_none rfl) rfl rfl Try.underlying40 ts9 tz9 rfl (by kernel_rfl) rfl rfl hp ?_
     intro g6 w hp
     have hpS19 := (hp.sub (.cons _ (.cons _ (.cons _ (.cons_cons _ (.cons _ .slnil))))))
     refine GL_nil ⟨fun _ => hpS19, ?_⟩
     refine GO_of_GL rfl ?_
     refine GL_append (i := 2) (wn_none rfl) rfl rfl rfl rfl Try.underlying40 ti9 rfl (by decide) hp rfl (Sl.row (hp.get 0 rfl)) (one1 rfl) (by omega) (by omega) ?_
     intro v16 w hp
     obtain ⟨Av16, cv16, rfl⟩ := row_shape (hp.get 2 rfl)
     have hpS20 := (hp.sub (.cons _ (.cons _ (.cons _ (.cons_cons _ (.cons _ .slnil))))))
     refine GL_nil ⟨fun _ => hpS20, ?_⟩
     refine GO_rdT rfl (wn_none rfl) rfl (fun w => (rd_field rfl rfl fa83_5 _ rfl)) ?_
     refine GO_of_GL rfl ?_
     refine GL_store (i := 3) (wn_none rfl) rfl rfl rfl rfl ts40 rfl rfl (one1 rfl) hp rfl (by rw [clipC_len]; decide) (clip_setH _ _ _ _) ?_
     intro w hp
     refine GL_nil ⟨fun h => absurd h (by decide), ?_⟩
     refine GO_nil ?_
     refine GW_region ?_
     refine GL_rd (wn_none rfl) rfl (rd_bin rfl rfl rfl (bo_add64 (by omega))) ?_
     refine GL_rd (v := .int _ _) (wn_none rfl) rfl (rd_move rfl rfl) ?_
     refine GL_nil ?_
     have hp := (((((hp.front 4 rfl).front 2 rfl).front 4 rfl).front 4 rfl).take 4)
     have hp : Hp w0 [p] w [.row 9 1 (.slice Av16 (i + 1) cv16) (i + 1) ((txRun (k8 l) (i + 1)).1.map Value.string), cells g4 83 (clipC { clpZ with addr := rA l, cls := sN (k2 l) 1, made := sN (k3 l) 6, fired := decide ((sN (k4 l) 1 : Int) = 1), event := sN (k5 l) 6, note := sX (k6 l) 32 } (.slice Av16 (i + 1) cv16) (.slice none 0 0)), cells p 226 [bv15, .bool (txRun (k8 l) (i + 1)).2.1], cells g 83 clpZc] := by rw [txRun_map]; exact hp
     exact ihL0 (i + 1, (.slice Av16 (i + 1) cv16), bv15) _ _ (by simp only []; omega) ⟨_, slots6 rfl rfl rfl rfl rfl rfl, hp, by omega, hsufL.trans hsuf15⟩
    ·(try simp only [decide_eq_true_eq, decide_eq_false_iff_not, Bool.not_eq_true', Bool.not_eq_false', Bool.not_eq_eq_eq_not, Bool.not_true, Bool.not_false, Int.not_lt, Int.not_le] at hb2)
     obtain rfl : i = nH l := by omega
     obtain ⟨Az, cz, rfl⟩ := row_shape (hp.get 0 rfl)
     refine GW_exit ?_
     refine GW_seq ?_
     refine GW_seq ?_
     refine GW_region ?_
     refine GL_rd (v := .pointer (some ⟨_, _, none⟩)) (wn_none rfl) rfl (rd_move rfl rfl) ?_
     refine GL_call (wn_none rfl) rfl rfl (cur_Num p _ ((k9 l).2) ((k9 l).1) 1 _ (hp.get 2 rfl) (fun w' h => (hsufL w' (hB w' (hp.modAt 2 rfl h)))) (by have hk := k_le hl; exact hk.2.2.2.2.2.2.2.2.1)) rfl ?_
     rintro _ w ⟨bv16, hsuf16, rfl, hk⟩
     have hp := hp.turnAtMore 2 rfl hk
     refine GL_rd (wn_none rfl) rfl (rd_convE (q := (sN (k9 l) 1 : Int)) rfl rfl Try.underlying3 Try.underlying160 (by simp) (IntWalk.i64_in _ (by have := sN1 (k9 l); omega))) ?_
     refine GL_rd (wn_none rfl) rfl (rd_min rfl rfl rfl) ?_
     refine GL_rd (v := .int _ _) (wn_none rfl) rfl (rd_move rfl rfl) ?_
     refine GL_nil ?_
     refine GW_block ?_
     refine GW_loop ?_
     refine Lp_ind (α := Nat × Value × Value) (fun a_0 f_0 w' => match a_0 with | (i, v2, bc) => ∃ fz, f_0 = (upd (upd (upd (upd (upd (upd fz 0 (.pointer (some ⟨p, 0, none⟩))) 2 (.pointer (some ⟨g, 0, none⟩))) 4 (.pointer (some ⟨g4, 0, none⟩))) 5 (.int .u64 (sN (k4 l) 1 : Int))) 51 (.int .i64 (min (sN (k9 l) 1 : Int) 5))) 52 (.int .i64 (i : Int))) ∧ Hp w0 [p] w' [.row 3 1 v2 i ((nmRun (k10 l) i).1.map (Value.int .i64)), .row 9 1 (.slice Az (nH l) cz) (nH l) ((txRun (k8 l) (nH l)).1.map Value.string), cells g4 83 (clipC { clpZ with addr := rA l, cls := sN (k2 l) 1, made := sN (k3 l) 6, fired := decide ((sN (k4 l) 1 : Int) = 1), event := sN (k5 l) 6, note := sX (k6 l) 32 } (.slice Az (nH l) cz) v2), cells p 226 [bc, .bool (nmRun (k10 l) i).2.1], cells g 83 clpZc] ∧ (i ≤ nT l) ∧ (Suf b0 l bc (nmRun (k10 l) i).2.2)) (fun a_0 => match a_0 with | (i, v2, bc) => nT l - i) ?_ (0, .slice none 0 0, bv16) _ _ ?_
     ·rintro ⟨i, v2, bc⟩ f wz ⟨fz, rfl, hp, hi0, hsufL⟩ ihL1
      refine Lp_round ?_
      refine GW_seq ?_
      refine GW_region ?_
      refine GL_rd (wn_none rfl) rfl (rd_bin rfl rfl rfl bo_lss) ?_
      refine GL_nil ?_
      refine GW_seq ?_
      refine GW_cond rfl (fun hb3 => ?_) (fun hb3 => ?_)
      ·(try simp only [decide_eq_true_eq, decide_eq_false_iff_not, Bool.not_eq_true', Bool.not_eq_false', Bool.not_eq_eq_eq_not, Bool.not_true, Bool.not_false, Int.not_lt, Int.not_le] at hb3)
       refine GW_skip ?_
       refine GW_seq ?_
       refine GW_block ?_
       refine GW_drawnK 8 (.one 0 true (.one 1 true (.one 2 true (.one 3 false (.one 4 true (.one 5 false (.one 6 false (.one 7 true (.one 8 false .nil))))))))) mixed (by kernel_rfl) hp (fun _ h => (h.sub (.cons _ (.cons _ (.cons_cons _ (.cons _ (.cons _ .slnil))))))) fun w hp => ?_
       have hpS21 := (hp.sub (.cons _ (.cons _ (.cons_cons _ (.cons _ (.cons _ .slnil))))))
       refine GO_rdT rfl (wn_none rfl) rfl (fun w => (rd_field rfl rfl fa83_7 _ rfl)) ?_
       refine GO_rd rfl rfl (wn_none rfl) rfl hpS21 (fun w hp => (rd_load rfl rfl Try.underlying32 rfl ((cell_of_cells (hp.get 0 rfl) _).trans (clip_texts _ _ _)))) ?_
       refine GO_rdT (v := .pointer (some ⟨_, _, none⟩)) rfl (wn_none rfl) rfl (fun w => (rd_move rfl rfl)) ?_
       refine GO_of_GL rfl ?_
       refine GL_call (wn_none rfl) rfl rfl (cur_Num p _ ((nmRun (k10 l) i).2.2) ((nmRun (k10 l) i).2.1) 1 _ (hp.get 3 rfl) (fun w' h => (hsufL w' (hB w' (hp.modAt 3 rfl h)))) (nmRun_le (by have hk := k_le hl; exact hk.2.2.2.2.2.2.2.2.2.1) _)) rfl ?_
       rintro _ w ⟨bv17, hsuf17, rfl, hk⟩
       have hp := hp.turnAtMore 3 rfl hk
       have hpS22 := (hp.sub (.cons _ (.cons _ (.cons _ (.cons_cons _ (.cons _ .slnil))))))
       refine GL_nil ⟨fun _ => hpS22, ?_⟩
       refine GO_rd rfl rfl (wn_none rfl) rfl hpS22 (fun w hp => (rd_convE (q := (sN (nmRun (k10 l) i).2 1 : Int)) rfl rfl Try.underlying3 Try.underlying160 (by simp) (IntWalk.i64_in _ (by have := sN1 (nmRun (k10 l) i).2; omega)))) ?_
       refine GO_of_GL rfl ?_
       refine GL_lit (L := [.int .i64 (sN (nmRun (k10 l) i).2 1 : Int)]) (wn_none rfl) rfl rfl Try.underlying32 ts3 tz3 rfl (by kernel_rfl) rfl rfl hp ?_
       intro g7 w hp
       have hpS23 := (hp.sub (.cons _ (.cons _ (.cons _ (.cons _ (.cons_cons _ (.cons _ .slnil)))))))
       refine GL_nil ⟨fun _ => hpS23, ?_⟩
       refine GO_of_GL rfl ?_
       refine GL_append (i := 2) (wn_none rfl) rfl rfl rfl rfl Try.underlying32 ti3 rfl (by decide) hp rfl (Sl.row (hp.get 0 rfl)) (one1 rfl) (by omega) (by omega) ?_
       intro v19 w hp
       obtain ⟨Av19, cv19, rfl⟩ := row_shape (hp.get 2 rfl)
       have hpS24 := (hp.sub (.cons _ (.cons _ (.cons _ (.cons _ (.cons_cons _ (.cons _ .slnil)))))))
       refine GL_nil ⟨fun _ => hpS24, ?_⟩
       refine GO_rdT rfl (wn_none rfl) rfl (fun w => (rd_field rfl rfl fa83_7 _ rfl)) ?_
       refine GO_of_GL rfl ?_
       refine GL_store (i := 4) (wn_none rfl) rfl rfl rfl rfl ts32 rfl rfl (one1 rfl) hp rfl (by rw [clipC_len]; decide) (clip_setT _ _ _ _) ?_
       intro w hp
       refine GL_nil ⟨fun h => absurd h (by decide), ?_⟩
       refine GO_nil ?_
       refine GW_region ?_
       refine GL_rd (wn_none rfl) rfl (rd_bin rfl rfl rfl (bo_add64 (by omega))) ?_
       refine GL_rd (v := .int _ _) (wn_none rfl) rfl (rd_move rfl rfl) ?_
       refine GL_nil ?_
       have hp := ((((((hp.front 5 rfl).front 2 rfl).front 5 rfl).front 5 rfl).front 5 rfl).take 5)
       have hp : Hp w0 [p] w [.row 3 1 (.slice Av19 (i + 1) cv19) (i + 1) ((nmRun (k10 l) (i + 1)).1.map (Value.int .i64)), .row 9 1 (.slice Az (nH l) cz) (nH l) ((txRun (k8 l) (nH l)).1.map Value.string), cells g4 83 (clipC { clpZ with addr := rA l, cls := sN (k2 l) 1, made := sN (k3 l) 6, fired := decide ((sN (k4 l) 1 : Int) = 1), event := sN (k5 l) 6, note := sX (k6 l) 32 } (.slice Az (nH l) cz) (.slice Av19 (i + 1) cv19)), cells p 226 [bv17, .bool (nmRun (k10 l) (i + 1)).2.1], cells g 83 clpZc] := by rw [nmRun_map]; exact hp
       exact ihL1 (i + 1, (.slice Av19 (i + 1) cv19), bv17) _ _ (by simp only []; omega) ⟨_, slots6 rfl rfl rfl rfl rfl rfl, hp, by omega, hsufL.trans hsuf17⟩
      ·(try simp only [decide_eq_true_eq, decide_eq_false_iff_not, Bool.not_eq_true', Bool.not_eq_false', Bool.not_eq_eq_eq_not, Bool.not_true, Bool.not_false, Int.not_lt, Int.not_le] at hb3)
       obtain rfl : i = nT l := by omega
       obtain ⟨Ay, cy, rfl⟩ := row_shape (hp.get 0 rfl)
       refine GW_exit ?_
       refine GW_seq ?_
       refine GW_drawnK 9 (.one 0 true (.one 1 true (.one 2 false (.one 3 true (.one 4 true (.one 5 true (.one 6 true (.one 7 false (.one 8 true .nil))))))))) mixed (by kernel_rfl) hp (fun _ h => (h.sub (.cons _ (.cons _ (.cons_cons _ (.cons _ (.cons _ .slnil))))))) fun w hp => ?_
       have hpS25 := (hp.sub (.cons _ (.cons _ (.cons_cons _ (.cons _ (.cons _ .slnil))))))
       refine GO_rd rfl rfl (wn_none rfl) rfl hpS25 (fun w hp => (rd_loadC rfl rfl Try.underlying83 rfl ts83 (hp.get 0 rfl) (clipC_len _ _ _))) ?_
       refine GO_rdT (v := .pointer (some ⟨_, _, none⟩)) rfl (wn_none rfl) rfl (fun w => (rd_move rfl rfl)) ?_
       refine GO_of_GL rfl ?_
       refine GL_call (wn_none rfl) rfl rfl (cur_Rest p _ ((k11 l).2) ((k11 l).1) _ (hp.get 3 rfl) (fun w' h => (hsufL w' (hB w' (hp.modAt 3 rfl h))))) rfl ?_
       rintro _ w ⟨rfl, hk⟩
       have hp := hp.comp hk
       have hpS26 := (hp.sub (.cons _ (.cons _ (.cons_cons _ (.cons _ (.cons _ .slnil))))))
       refine GL_nil ⟨fun _ => hpS26, ?_⟩
       refine GO_rdT (v := .bool _) rfl (wn_none rfl) rfl (fun w => (rd_move rfl rfl)) ?_
       refine GO_split (t := 66) (b := _) rfl ?_ ?_
       ·intro hb4; (try simp only [decide_eq_true_eq, decide_eq_false_iff_not, Bool.not_eq_true', Bool.not_eq_false', Bool.not_eq_eq_eq_not, Bool.not_true, Bool.not_false, Int.not_lt, Int.not_le] at hb4)
        have hrest : (!(k11 l).1 && zeroL (k11 l).2) = true := hb4
        refine GO_rdT (v := .int _ _) rfl (wn_on rfl rfl rfl rfl) rfl (fun w => (rd_move rfl rfl)) ?_
        refine GO_rd rfl rfl (wn_on rfl rfl rfl rfl) rfl hpS26 (fun w hp => (rd_bin rfl rfl rfl bo_lss)) ?_
        refine GO_rdT (v := .bool _) rfl (wn_none rfl) rfl (fun w => (rd_pickT rfl rfl rfl)) ?_
        refine GO_of_GL rfl ?_
        refine GL_store (i := 4) (wn_none rfl) rfl rfl rfl rfl ts83 rfl (clipC_len _ _ _) (clipC_one _ _ _ _ _ _ _) hp rfl (by decide) (splice_all _ _ (by rw [clipC_len]; rfl)) ?_
        intro w hp
        have hpS27 := (hp.sub (.cons _ (.cons _ (.cons_cons _ (.cons _ (.cons _ .slnil))))))
        refine GL_nil ⟨fun _ => hpS27, ?_⟩
        refine GO_rdT (v := .bool _) rfl (wn_none rfl) rfl (fun w => (rd_assign rfl rfl)) ?_
        refine GO_nil ?_
        refine GW_ret ?_
        have e2 : decide ((sN (k4 l) 1 : Int) < 2) = decide (sN (k4 l) 1 < 2) := decide_eq_decide.2 (by omega)
        refine ⟨_, res2 Try.results132 (rv_cell rfl rfl Try.underlying83 rfl ts83 (by first | exact clipC_len _ _ _ | rfl) (hp.get 4 rfl)) (rv_tmp (v := .bool _) rfl rfl), .slice Az (nH l) cz, .slice Ay (nT l) cy, by rw [rV_yes ht, ← rC_c, rOk, ht, hrest, Bool.true_and, Bool.true_and, ← e2], ?_⟩
        rw [rV_yes ht, rC_hn, rC_tn]
        have hp := (((hp.front 1 rfl).front 1 rfl).take 2)
        exact hp
       ·intro hb4; (try simp only [decide_eq_true_eq, decide_eq_false_iff_not, Bool.not_eq_true', Bool.not_eq_false', Bool.not_eq_eq_eq_not, Bool.not_true, Bool.not_false, Int.not_lt, Int.not_le] at hb4)
        have hrest : (!(k11 l).1 && zeroL (k11 l).2) = false := hb4
        refine GO_pass rfl (nw_off rfl rfl rfl rfl rfl) rfl ?_
        refine GO_pass rfl (nw_off rfl rfl rfl rfl rfl) rfl ?_
        refine GO_rdT (v := .bool _) rfl (wn_none rfl) rfl (fun w => (rd_pickF rfl rfl rfl)) ?_
        refine GO_of_GL rfl ?_
        refine GL_store (i := 4) (wn_none rfl) rfl rfl rfl rfl ts83 rfl (clipC_len _ _ _) (clipC_one _ _ _ _ _ _ _) hp rfl (by decide) (splice_all _ _ (by rw [clipC_len]; rfl)) ?_
        intro w hp
        have hpS28 := (hp.sub (.cons _ (.cons _ (.cons_cons _ (.cons _ (.cons _ .slnil))))))
        refine GL_nil ⟨fun _ => hpS28, ?_⟩
        refine GO_rdT (v := .bool _) rfl (wn_none rfl) rfl (fun w => (rd_assign rfl rfl)) ?_
        refine GO_nil ?_
        refine GW_ret ?_
        have e2 : decide ((sN (k4 l) 1 : Int) < 2) = decide (sN (k4 l) 1 < 2) := decide_eq_decide.2 (by omega)
        refine ⟨_, res2 Try.results132 (rv_cell rfl rfl Try.underlying83 rfl ts83 (by first | exact clipC_len _ _ _ | rfl) (hp.get 4 rfl)) (rv_tmp (v := .bool _) rfl rfl), .slice Az (nH l) cz, .slice Ay (nT l) cy, by rw [rV_yes ht, ← rC_c, rOk, ht, hrest, Bool.true_and, Bool.false_and], ?_⟩
        rw [rV_yes ht, rC_hn, rC_tn]
        have hp := (((hp.front 1 rfl).front 1 rfl).take 2)
        exact hp
     ·have hp := (((((hp.front 3 rfl).front 1 rfl).front 3 rfl).front 3 rfl).take 4)
      have hp := hp.nilRow 3 1
      refine ⟨_, slots6 rfl rfl rfl rfl rfl rfl, hp, Nat.zero_le _, (hsufL.trans hsuf16)⟩
   ·have hp := ((((hp.front 2 rfl).front 1 rfl).front 2 rfl).take 3)
    have hp := hp.nilRow 9 1
    refine ⟨_, slots6 rfl rfl rfl rfl rfl rfl, hp, Nat.zero_le _, (hsufC.trans (hsuf11.trans (hsuf12.trans (hsuf13.trans hsuf14))))⟩
end Go.Proofs.Ytblpmjbddpadcaa
