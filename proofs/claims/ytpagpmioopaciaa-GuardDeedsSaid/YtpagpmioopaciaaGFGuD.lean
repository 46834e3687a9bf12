/- Walks of functions of the program. -/
import Derived.Test.YtpagpmioopaciaaGFGuL
import Derived.Test.YtpagpmioopaciaaGGuaV
set_option linter.unusedVariables false
set_option linter.unusedSimpArgs false
namespace Go.Proofs.Ytpagpmioopaciaa
open Go.Mo Go.RowKit
set_option maxHeartbeats 1000000 in
theorem gu_Do (gq rm pm cr cp : Nat) (RA PA : AL) (mk : MK) (ct : CT) (who : ByteArray) (k : Nat) (caps : List Value) (rq : Rq) {α : Type} (r0 : Res) (r1 : α → Res) (C : Rp → α → Prop) (F0 : List Nat) (w0 : World) (hp0 : Hp w0 F0 w0 [cells gq 137 [.map (some rm), .map (some pm)], .blk rm (.map ⟨alE RA⟩ cr), .blk pm (.map ⟨alE PA⟩ cp), packL (rowsG 9 PA ct), r0]) (hO : GuOk RA cr mk PA cp ct) (hdo : ∀ w1, Hp w1 r0.foot w1 [r0] → Does Try.prog k ⟨.agg ⟨rqC { rq with actor := who }⟩ :: caps⟩ w1 fun v w' => ∃ p a, v = .agg ⟨rpC p⟩ ∧ p.one ∧ C p a ∧ Hp w1 r0.foot w' [r1 a]) : Does Try.prog 27 #[.pointer (some ⟨gq, 0, none⟩), .string who, .agg ⟨rqC rq⟩, .func (.func k) #[] ⟨caps⟩] w0 fun v w' => ∃ p, v = .agg ⟨rpC p⟩ ∧ p.one ∧ if mayB mk ct who rq.op = true then ∃ a, C p a ∧ Hp w0 F0 w' [cells gq 137 [.map (some rm), .map (some pm)], .blk rm (.map ⟨alE RA⟩ cr), .blk pm (.map ⟨alE PA⟩ cp), packL (rowsG 9 PA ct), (r1 a)] else p = rpE 14 ∧ Hp w0 F0 w' [cells gq 137 [.map (some rm), .map (some pm)], .blk rm (.map ⟨alE RA⟩ cr), .blk pm (.map ⟨alE PA⟩ cp), packL (rowsG 9 PA ct), r0] := by
 refine does_of (l := [.pointer (some ⟨gq, 0, none⟩), .string who, .agg ⟨rqC rq⟩, .func (.func k) #[] ⟨caps⟩]) Try.func27 (by kernel_rfl) rfl Try.ntmps27 rfl rfl (by kernel_rfl) ?_
 have hp := hp0
 refine GW_seq ?_
 refine GW_region ?_
 refine GL_box (wn_none rfl) rfl rfl rfl rfl hp ?_
 intro g w hp
 refine GL_alloc (wn_none rfl) rfl rfl tz71 rfl hp ?_
 intro g2 w hp
 refine GL_nil ?_
 refine GW_seq ?_
 refine GW_seq ?_
 refine GW_region ?_
 refine GL_rd (v := .func (.func k) #[] ⟨caps⟩) (wn_none rfl) rfl (rd_move rfl rfl) ?_
 refine GL_rd (wn_none rfl) rfl (rd_bin rfl rfl rfl (bo_fnil Try.underlying73)) ?_
 refine GL_nil ?_
 refine GW_false rfl ?_
 refine GW_skip ?_
 refine GW_seq ?_
 refine GW_seq ?_
 refine GW_region ?_
 refine GL_rd (v := .pointer (some ⟨_, _, none⟩)) (wn_none rfl) rfl (rd_move rfl rfl) ?_
 refine GL_rd (v := .string _) (wn_none rfl) rfl (rd_move rfl rfl) ?_
 refine GL_rd (wn_none rfl) rfl (rd_field rfl rfl fa69_0 _ rfl) ?_
 refine GL_rd (wn_none rfl) rfl (rd_load rfl rfl Try.underlying3 rfl ((cell_of_cells (hp.get 1 rfl) _).trans (rq_op _))) ?_
 refine GL_call (wn_none rfl) rfl rfl (gu_May gq rm pm cr cp RA PA mk ct who rq.op _ ⟨hp.get 2 rfl, hp.get 3 rfl, hp.get 4 rfl, hp.get 5 rfl⟩ hO) rfl ?_
 rintro _ w ⟨rfl, hk⟩
 have hp := hp.comp hk
 refine GL_rd (wn_none rfl) rfl (rd_not rfl rfl) ?_
 refine GL_nil ?_
 refine GW_cond rfl (fun hb => ?_) (fun hb => ?_)
 ·(try simp only [decide_eq_true_eq, decide_eq_false_iff_not, Bool.not_eq_true', Bool.not_eq_false', Bool.not_eq_eq_eq_not, Bool.not_true, Bool.not_false, Int.not_lt, Int.not_le] at hb)
  have hm : ¬ mayB mk ct who rq.op = true := by rw [hb]; decide
  refine GW_seq ?_
  refine GW_region ?_
  refine GL_rd (wn_none rfl) rfl (rd_buildS (L := (rpC (rpE 14))) rfl tz71 pl71 (by kernel_rfl)) ?_
  refine GL_store (i := 0) (wn_none rfl) rfl rfl rfl rfl ts71 rfl (rpC_len _) (rpC_one (rpE_one _)) hp rfl (by first | exact Nat.le_of_ble_eq_true rfl | (rw [rpC_len]; decide)) (splice_all _ _ (by first | rw [rpC_len, rpC_len] | (rw [rpC_len]; rfl))) ?_
  intro w hp
  refine GL_nil ?_
  refine GW_ret ?_
  refine ⟨_, res1 Try.results27 (rv_cell rfl rfl Try.underlying71 rfl ts71 (rpC_len _) (hp.get 0 rfl)), _, rfl, rpE_one 14, ?_⟩
  rw [if_neg hm]
  have hp := ((((((hp.front 6 rfl).front 6 rfl).front 6 rfl).front 6 rfl).front 6 rfl).take 5)
  exact ⟨rfl, hp⟩
 ·(try simp only [decide_eq_true_eq, decide_eq_false_iff_not, Bool.not_eq_true', Bool.not_eq_false', Bool.not_eq_eq_eq_not, Bool.not_true, Bool.not_false, Int.not_lt, Int.not_le] at hb)
  have hm := hb
  refine GW_skip ?_
  refine GW_seq ?_
  refine GW_region ?_
  refine GL_rd (v := .string _) (wn_none rfl) rfl (rd_move rfl rfl) ?_
  refine GL_rd (wn_none rfl) rfl (rd_field rfl rfl fa69_2 _ rfl) ?_
  refine GL_store (i := 1) (wn_none rfl) rfl rfl rfl rfl ts9 rfl rfl (one1 rfl) hp rfl (by rw [rqC_len]; decide) (rq_setActor _ _) ?_
  intro w hp
  refine GL_nil ?_
  refine GW_seq ?_
  refine GW_region ?_
  refine GL_rd (v := .func (.func k) #[] ⟨caps⟩) (wn_none rfl) rfl (rd_move rfl rfl) ?_
  refine GL_rd (wn_none rfl) rfl (rd_loadC rfl rfl Try.underlying69 rfl ts69 (hp.get 1 rfl) (rqC_len _)) ?_
  refine GL_callV (wn_none rfl) rfl rfl rfl (hdo _ (hp.own1 6 rfl)) rfl ?_
  rintro _ w ⟨p, a, rfl, hp1, hC, hk⟩
  have hp := hp.turnAt 6 rfl hk
  refine GL_store (i := 0) (wn_none rfl) rfl rfl rfl rfl ts71 rfl (rpC_len _) (rpC_one hp1) hp rfl (by first | exact Nat.le_of_ble_eq_true rfl | (rw [rpC_len]; decide)) (splice_all _ _ (by first | rw [rpC_len, rpC_len] | (rw [rpC_len]; rfl))) ?_
  intro w hp
  refine GL_nil ?_
  refine GW_ret ?_
  refine ⟨_, res1 Try.results27 (rv_cell rfl rfl Try.underlying71 rfl ts71 (rpC_len _) (hp.get 0 rfl)), _, rfl, hp1, ?_⟩
  rw [if_pos hm]
  have hp := ((((((hp.front 6 rfl).front 6 rfl).front 6 rfl).front 6 rfl).front 6 rfl).take 5)
  exact ⟨a, hC, hp⟩
theorem gu_DoNil (gq : Nat) (who : ByteArray) (rq : Rq) (w0 : World) : Does Try.prog 27 #[.pointer (some ⟨gq, 0, none⟩), .string who, .agg ⟨rqC rq⟩, .nilFunc] w0 fun v w' => v = .agg ⟨rpC (rpE 1)⟩ ∧ Hp w0 [] w' [] := by
 refine does_of (l := [.pointer (some ⟨gq, 0, none⟩), .string who, .agg ⟨rqC rq⟩, .nilFunc]) Try.func27 (by kernel_rfl) rfl Try.ntmps27 rfl rfl (by kernel_rfl) ?_
 have hp := Hp.refl w0 []
 refine GW_seq ?_
 refine GW_region ?_
 refine GL_box (wn_none rfl) rfl rfl rfl rfl hp ?_
 intro g w hp
 refine GL_alloc (wn_none rfl) rfl rfl tz71 rfl hp ?_
 intro g2 w hp
 refine GL_nil ?_
 refine GW_seq ?_
 refine GW_seq ?_
 refine GW_region ?_
 refine GL_rd (v := .nilFunc) (wn_none rfl) rfl (rd_move rfl rfl) ?_
 refine GL_rd (wn_none rfl) rfl (rd_bin rfl rfl rfl (bo_fnn Try.underlying73)) ?_
 refine GL_nil ?_
 refine GW_true rfl ?_
 refine GW_seq ?_
 refine GW_region ?_
 refine GL_rd (wn_none rfl) rfl (rd_buildS (L := (rpC (rpE 1))) rfl tz71 pl71 (by kernel_rfl)) ?_
 refine GL_store (i := 0) (wn_none rfl) rfl rfl rfl rfl ts71 rfl (rpC_len _) (rpC_one (rpE_one _)) hp rfl (by first | exact Nat.le_of_ble_eq_true rfl | (rw [rpC_len]; decide)) (splice_all _ _ (by first | rw [rpC_len, rpC_len] | (rw [rpC_len]; rfl))) ?_
 intro w hp
 refine GL_nil ?_
 refine GW_ret ?_
 exact ⟨_, res1 Try.results27 (rv_cell rfl rfl Try.underlying71 rfl ts71 (rpC_len _) (hp.get 0 rfl)), rfl, hp.mods⟩
theorem law_gworks1 (rq : Rq) (w0 : World) (hz : rq.actor.size ≤ 65000) : Does Try.prog 52 #[.agg ⟨rqC rq⟩] w0 fun v w' => ∃ p a, v = .agg ⟨rpC p⟩ ∧ p.one ∧ (∀ w, (Res.blk (Prod.fst a) (Prod.snd a)).at_ w → Sl w p.data 1 rq.actor.size (bys rq.actor.data.toList)) ∧ Hp w0 [] w' [.blk (Prod.fst a) (Prod.snd a)] := by
 refine does_of (l := [.agg ⟨rqC rq⟩]) Try.func52 (by kernel_rfl) rfl Try.ntmps52 rfl rfl (by kernel_rfl) ?_
 have hp := Hp.refl w0 []
 refine GW_seq ?_
 refine GW_region ?_
 refine GL_box (wn_none rfl) rfl rfl rfl rfl hp ?_
 intro g w hp
 refine GL_alloc (wn_none rfl) rfl rfl tz71 rfl hp ?_
 intro g2 w hp
 refine GL_nil ?_
 refine GW_seq ?_
 refine GW_region ?_
 refine GL_rd (wn_none rfl) rfl (rd_field rfl rfl fa69_2 _ rfl) ?_
 refine GL_rd (wn_none rfl) rfl (rd_load rfl rfl Try.underlying9 rfl ((cell_of_cells (hp.get 1 rfl) _).trans (rq_actor _))) ?_
 refine GL_strB (wn_none rfl) rfl rfl rfl Try.underlying9 Try.underlying33 Try.underlying5 hp (by omega) ?_
 intro sb ob sv w hp hsl
 obtain ⟨As, cs, rfl⟩ := sl_shape (hsl _ (hp.get 0 rfl))
 refine GL_rd (wn_none rfl) rfl (rd_buildS (L := (rpC ⟨0, a32Z, .slice As rq.actor.size cs, .slice none 0 0, 0, false⟩)) rfl tz71 pl71 (by kernel_rfl)) ?_
 refine GL_store (i := 1) (wn_none rfl) rfl rfl rfl rfl ts71 rfl (rpC_len _) (rpC_one ⟨rfl, rfl⟩) hp rfl (by first | exact Nat.le_of_ble_eq_true rfl | (rw [rpC_len]; decide)) (splice_all _ _ (by first | rw [rpC_len, rpC_len] | (rw [rpC_len]; rfl))) ?_
 intro w hp
 refine GL_nil ?_
 refine GW_ret ?_
 refine ⟨_, res1 Try.results52 (rv_cell rfl rfl Try.underlying71 rfl ts71 (rpC_len _) (hp.get 1 rfl)), _, (sb, ob), rfl, ⟨rfl, rfl⟩, hsl, ?_⟩
 have hp := ((hp.front 0 rfl).take 1)
 exact hp
theorem law_gworks2 (rq : Rq) (w0 : World) : Does Try.prog 53 #[.agg ⟨rqC rq⟩] w0 fun v w' => v = .agg ⟨rpC rpZ⟩ ∧ Hp w0 [] w' [] := by
 refine does_of (l := [.agg ⟨rqC rq⟩]) Try.func53 (by kernel_rfl) rfl Try.ntmps53 rfl rfl (by kernel_rfl) ?_
 have hp := Hp.refl w0 []
 refine GW_seq ?_
 refine GW_region ?_
 refine GL_box (wn_none rfl) rfl rfl rfl rfl hp ?_
 intro g w hp
 refine GL_alloc (wn_none rfl) rfl rfl tz71 rfl hp ?_
 intro g2 w hp
 refine GL_nil ?_
 refine GW_seq ?_
 refine GW_region ?_
 refine GL_rd (wn_none rfl) rfl (rd_buildS (L := (rpC rpZ)) rfl tz71 pl71 (by kernel_rfl)) ?_
 refine GL_store (i := 0) (wn_none rfl) rfl rfl rfl rfl ts71 rfl (rpC_len _) (rpC_one rpZ_one) hp rfl (by first | exact Nat.le_of_ble_eq_true rfl | (rw [rpC_len]; decide)) (splice_all _ _ (by first | rw [rpC_len, rpC_len] | (rw [rpC_len]; rfl))) ?_
 intro w hp
 refine GL_nil ?_
 refine GW_ret ?_
 exact ⟨_, res1 Try.results53 (rv_cell rfl rfl Try.underlying71 rfl ts71 (rpC_len _) (hp.get 0 rfl)), rfl, hp.mods⟩
theorem law_gDeeds1 (ga gw gr gf : Nat) (who : ByteArray) (rq rx : Rq) (F0 : List Nat) (w0 : World) (hp0 : Hp w0 F0 w0 [cells ga 3 [.int .i64 0], cells gw 9 [.string who], cells gr 69 (rqC rq), cells gf 4 [.bool true]]) (ha : rx.actor = who) (ho : rx.op = rq.op) (hn : rx.name = rq.name) : Does Try.prog 28 #[.agg ⟨rqC rx⟩, .pointer (some ⟨ga, 0, none⟩), .pointer (some ⟨gw, 0, none⟩), .pointer (some ⟨gr, 0, none⟩), .pointer (some ⟨gf, 0, none⟩)] w0 fun v w' => v = .agg ⟨rpC { rpZ with n := 7 }⟩ ∧ Hp w0 F0 w' [cells ga 3 [.int .i64 1], cells gw 9 [.string who], cells gr 69 (rqC rq), cells gf 4 [.bool true]] := by
 refine does_of (l := [.agg ⟨rqC rx⟩, .pointer (some ⟨ga, 0, none⟩), .pointer (some ⟨gw, 0, none⟩), .pointer (some ⟨gr, 0, none⟩), .pointer (some ⟨gf, 0, none⟩)]) Try.func28 (by kernel_rfl) rfl Try.ntmps28 rfl rfl (by kernel_rfl) ?_
 have hp := hp0
 refine GW_seq ?_
 refine GW_region ?_
 refine GL_box (wn_none rfl) rfl rfl rfl rfl hp ?_
 intro g w hp
 refine GL_alloc (wn_none rfl) rfl rfl tz71 rfl hp ?_
 intro g2 w hp
 refine GL_nil ?_
 refine GW_seq ?_
 refine GW_region ?_
 refine GL_rd (wn_none rfl) rfl (rd_load rfl rfl Try.underlying3 rfl ((cell_of_cells (hp.get 2 rfl) _).trans rfl)) ?_
 refine GL_rd (wn_none rfl) rfl (rd_bin rfl rfl rfl (bo_add64 (by omega))) ?_
 refine GL_store (i := 2) (wn_none rfl) rfl rfl rfl rfl ts3 rfl rfl (one1 rfl) hp rfl (by first | exact Nat.le_of_ble_eq_true rfl | simp [bys_length, *]) rfl ?_
 intro w hp
 refine GL_nil ?_
 refine GW_seq ?_
 refine GW_region ?_
 refine GL_rd (wn_none rfl) rfl (rd_field rfl rfl fa69_2 _ rfl) ?_
 refine GL_rd (wn_none rfl) rfl (rd_load rfl rfl Try.underlying9 rfl ((cell_of_cells (hp.get 1 rfl) _).trans (rq_actor _))) ?_
 refine GL_rd (wn_none rfl) rfl (rd_load rfl rfl Try.underlying9 rfl ((cell_of_cells (hp.get 3 rfl) _).trans rfl)) ?_
 refine GL_rd (wn_none rfl) rfl (rd_bin rfl rfl rfl bo_seql) ?_
 refine GL_rd (v := .bool _) (wn_none rfl) rfl (rd_move rfl rfl) ?_
 refine GL_split (t := 13) (b := _) rfl ?_ ?_
 ·intro hb; (try simp only [decide_eq_true_eq, decide_eq_false_iff_not, Bool.not_eq_true', Bool.not_eq_false', Bool.not_eq_eq_eq_not, Bool.not_true, Bool.not_false, Int.not_lt, Int.not_le] at hb)
  refine GL_rd (wn_on rfl rfl rfl rfl) rfl (rd_field rfl rfl fa69_0 _ rfl) ?_
  refine GL_rd (wn_on rfl rfl rfl rfl) rfl (rd_load rfl rfl Try.underlying3 rfl ((cell_of_cells (hp.get 1 rfl) _).trans (rq_op _))) ?_
  refine GL_rd (wn_on rfl rfl rfl rfl) rfl (rd_field rfl rfl fa69_0 _ rfl) ?_
  refine GL_rd (wn_on rfl rfl rfl rfl) rfl (rd_load rfl rfl Try.underlying3 rfl ((cell_of_cells (hp.get 4 rfl) _).trans (rq_op _))) ?_
  refine GL_rd (wn_on rfl rfl rfl rfl) rfl (rd_bin rfl rfl rfl bo_eql) ?_
  refine GL_rd (v := .bool _) (wn_none rfl) rfl (rd_pickT rfl rfl rfl) ?_
  refine GL_rd (v := .bool _) (wn_none rfl) rfl (rd_move rfl rfl) ?_
  refine GL_split (t := 20) (b := _) rfl ?_ ?_
  ·intro hb2; (try simp only [decide_eq_true_eq, decide_eq_false_iff_not, Bool.not_eq_true', Bool.not_eq_false', Bool.not_eq_eq_eq_not, Bool.not_true, Bool.not_false, Int.not_lt, Int.not_le] at hb2)
   refine GL_rd (wn_on rfl rfl rfl rfl) rfl (rd_field rfl rfl fa69_1 _ rfl) ?_
   refine GL_rd (wn_on rfl rfl rfl rfl) rfl (rd_load rfl rfl Try.underlying9 rfl ((cell_of_cells (hp.get 1 rfl) _).trans (rq_name _))) ?_
   refine GL_rd (wn_on rfl rfl rfl rfl) rfl (rd_field rfl rfl fa69_1 _ rfl) ?_
   refine GL_rd (wn_on rfl rfl rfl rfl) rfl (rd_load rfl rfl Try.underlying9 rfl ((cell_of_cells (hp.get 4 rfl) _).trans (rq_name _))) ?_
   refine GL_rd (wn_on rfl rfl rfl rfl) rfl (rd_bin rfl rfl rfl bo_seql) ?_
   refine GL_rd (v := .bool _) (wn_none rfl) rfl (rd_pickT rfl rfl rfl) ?_
   refine GL_store (i := 5) (wn_none rfl) rfl rfl rfl rfl ts4 rfl rfl (one1 rfl) hp rfl (by first | exact Nat.le_of_ble_eq_true rfl | simp [bys_length, *]) rfl ?_
   intro w hp
   refine GL_nil ?_
   refine GW_seq ?_
   refine GW_region ?_
   refine GL_rd (wn_none rfl) rfl (rd_buildS (L := (rpC { rpZ with n := 7 })) rfl tz71 pl71 (by kernel_rfl)) ?_
   refine GL_store (i := 0) (wn_none rfl) rfl rfl rfl rfl ts71 rfl (rpC_len _) (rpC_one ⟨rfl, rfl⟩) hp rfl (by first | exact Nat.le_of_ble_eq_true rfl | (rw [rpC_len]; decide)) (splice_all _ _ (by first | rw [rpC_len, rpC_len] | (rw [rpC_len]; rfl))) ?_
   intro w hp
   refine GL_nil ?_
   refine GW_ret ?_
   refine ⟨_, res1 Try.results28 (rv_cell rfl rfl Try.underlying71 rfl ts71 (rpC_len _) (hp.get 0 rfl)), rfl, ?_⟩
   have hp := (((((hp.front 5 rfl).front 5 rfl).front 5 rfl).front 5 rfl).take 4)
   rw [decide_eq_true hn] at hp
   exact hp
  ·intro hb2; (try simp only [decide_eq_true_eq, decide_eq_false_iff_not, Bool.not_eq_true', Bool.not_eq_false', Bool.not_eq_eq_eq_not, Bool.not_true, Bool.not_false, Int.not_lt, Int.not_le] at hb2)
   exact absurd ho hb2
 ·intro hb; (try simp only [decide_eq_true_eq, decide_eq_false_iff_not, Bool.not_eq_true', Bool.not_eq_false', Bool.not_eq_eq_eq_not, Bool.not_true, Bool.not_false, Int.not_lt, Int.not_le] at hb)
  exact absurd ha hb
end Go.Proofs.Ytpagpmioopaciaa
