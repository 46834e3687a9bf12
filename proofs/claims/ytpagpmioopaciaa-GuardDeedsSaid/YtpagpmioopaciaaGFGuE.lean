/- Walks of functions of the program. -/
import Derived.Test.YtpagpmioopaciaaGFGuD
set_option linter.unusedVariables false
set_option linter.unusedSimpArgs false
namespace Go.Proofs.Ytpagpmioopaciaa
open Go.Mo Go.RowKit
set_option maxHeartbeats 8000000 in
theorem law_gworks (w0 : World) : Does Try.prog 14 #[] w0 fun v w' => v = .bool true ∧ Hp w0 [] w' [] := by
 refine does_of (l := []) Try.func14 (by kernel_rfl) rfl Try.ntmps14 rfl rfl (by kernel_rfl) ?_
 have hp := Hp.refl w0 []
 refine GW_seq ?_
 refine GW_region ?_
 refine GL_rd (v := .bool _) (wn_none rfl) rfl (rd_assign rfl rfl) ?_
 refine GL_nil ?_
 refine GW_seq ?_
 refine GW_region ?_
 refine GL_call (wn_none rfl) rfl rfl (gu_New _) rfl ?_
 rintro _ w ⟨gq, rm, pm, rfl, hk⟩
 have hp := hp.comp hk
 have hp := hp.packNil
 have hp := ((hp.front 3 rfl).front 3 rfl).front 3 rfl
 obtain ⟨RA, cr, mk, PA, cp, ct, hO, hG, hp⟩ : ∃ RA cr mk PA cp ct, GuOk RA cr mk PA cp ct ∧ GuRel RA mk PA ct [] [] ∧ Hp w0 [] w [cells gq 137 [.map (some rm), .map (some pm)], .blk rm (.map ⟨alE RA⟩ cr), .blk pm (.map ⟨alE PA⟩ cp), packL (rowsG 9 PA ct)] := ⟨[], 0, _, [], 0, _, GuOk.nil, GuRel.nil, hp⟩
 refine GL_rd (v := .pointer (some ⟨gq, 0, none⟩)) (wn_none rfl) rfl (rd_assign rfl rfl) ?_
 refine GL_nil ?_
 refine GW_seq ?_
 refine GW_seq ?_
 refine GW_region ?_
 refine GL_rd (v := .pointer (some ⟨gq, 0, none⟩)) (wn_none rfl) rfl (rd_move rfl rfl) ?_
 refine GL_rd (wn_none rfl) rfl (rd_bin rfl rfl rfl (bo_pnil Try.underlying47)) ?_
 refine GL_nil ?_
 refine GW_false rfl ?_
 refine GW_skip ?_
 refine GW_seq ?_
 refine GW_region ?_
 refine GL_rd (v := .pointer (some ⟨gq, 0, none⟩)) (wn_none rfl) rfl (rd_move rfl rfl) ?_
 refine GL_lit (L := [.int .i64 3, .int .i64 5, .int .i64 99]) (wn_none rfl) rfl rfl Try.underlying36 ts3 tz3 rfl (by kernel_rfl) rfl rfl hp ?_
 intro g w hp
 refine GL_call (wn_none rfl) rfl rfl (gu_Of _ 3 [3, 5, 99] _ (Sl.row (hp.get 0 rfl))) rfl ?_
 rintro _ w ⟨rfl, hk⟩
 have hp := hp.comp hk
 refine GL_rd (wn_none rfl) rfl (rd_buildS (L := (rolC clerkS (ofBt [3, 5, 99]))) rfl tz59 pl59 (by kernel_rfl)) ?_
 have hp := ((((hp.front 4 rfl).front 4 rfl).front 4 rfl).front 4 rfl)
 refine GL_call (wn_none rfl) rfl rfl (gu_DefineX gq rm pm cr cp RA PA mk ct [] [] clerkS (.slice none 0 0) [3, 5, 99] (by decide) _ _ (hp.ownsT 4) hO hG) rfl ?_
 rintro v0 w ⟨hv, RA, cr, mk, hO, hG, hk⟩
 have hp := hp.turnsT 4 hk
 obtain rfl : v0 = .int .i64 0 := hv.trans (by rw [(wk1 (.slice none 0 0)).1])
 rw [show defX [] (clerkS, (.slice none 0 0), [3, 5, 99]) = _ from (wk1 (.slice none 0 0)).2] at hG
 refine GL_rd (v := .int .i64 0) (wn_none rfl) rfl (rd_assign rfl rfl) ?_
 refine GL_nil ?_
 refine GW_seq ?_
 refine GW_region ?_
 refine GL_rd (v := .pointer (some ⟨gq, 0, none⟩)) (wn_none rfl) rfl (rd_move rfl rfl) ?_
 refine GL_lit (L := [.int .i64 7, .int .i64 8]) (wn_none rfl) rfl rfl Try.underlying36 ts3 tz3 rfl (by kernel_rfl) rfl rfl hp ?_
 intro g2 w hp
 refine GL_call (wn_none rfl) rfl rfl (gu_Of _ 2 [7, 8] _ (Sl.row (hp.get 0 rfl))) rfl ?_
 rintro _ w ⟨rfl, hk⟩
 have hp := hp.comp hk
 refine GL_rd (wn_none rfl) rfl (rd_buildS (L := (rolC judgeS (ofBt [7, 8]))) rfl tz59 pl59 (by kernel_rfl)) ?_
 have hp := ((((hp.front 4 rfl).front 4 rfl).front 4 rfl).front 4 rfl)
 refine GL_call (wn_none rfl) rfl rfl (gu_DefineX gq rm pm cr cp RA PA mk ct [clR (.slice none 0 0)] [] judgeS (.slice none 0 0) [7, 8] (by decide) _ _ (hp.ownsT 4) hO hG) rfl ?_
 rintro v0 w ⟨hv, RA, cr, mk, hO, hG, hk⟩
 have hp := hp.turnsT 4 hk
 obtain rfl : v0 = .int .i64 0 := hv.trans (by rw [(wk2 (.slice none 0 0) (.slice none 0 0)).1])
 rw [show defX [clR (.slice none 0 0)] (judgeS, (.slice none 0 0), [7, 8]) = _ from (wk2 (.slice none 0 0) (.slice none 0 0)).2] at hG
 refine GL_rd (v := .int .i64 0) (wn_none rfl) rfl (rd_assign rfl rfl) ?_
 refine GL_nil ?_
 refine GW_seq ?_
 refine GW_region ?_
 refine GL_rd (v := .pointer (some ⟨gq, 0, none⟩)) (wn_none rfl) rfl (rd_move rfl rfl) ?_
 have hp := ((((hp.front 3 rfl).front 3 rfl).front 3 rfl).front 3 rfl)
 refine GL_call (wn_none rfl) rfl rfl (gu_GrantX gq rm pm cr cp RA PA mk ct [clR (.slice none 0 0), juR (.slice none 0 0)] [] annS clerkS (by decide) (by have h1 := hG.ctl annS; simp only [List.length_cons, List.length_nil] at h1; omega) _ _ (hp.ownsT 4) hO hG) rfl ?_
 rintro v0 w ⟨hv, PA, cp, ct, hO, hG, hk⟩
 have hp := hp.turnsT 4 hk
 obtain rfl : v0 = .int .i64 0 := hv.trans (by rw [(wk3 (.slice none 0 0) (.slice none 0 0)).1])
 rw [(wk3 (.slice none 0 0) (.slice none 0 0)).2] at hG
 refine GL_rd (v := .int .i64 0) (wn_none rfl) rfl (rd_assign rfl rfl) ?_
 refine GL_nil ?_
 refine GW_seq ?_
 refine GW_region ?_
 refine GL_rd (v := .pointer (some ⟨gq, 0, none⟩)) (wn_none rfl) rfl (rd_move rfl rfl) ?_
 have hp := ((((hp.front 3 rfl).front 3 rfl).front 3 rfl).front 3 rfl)
 refine GL_call (wn_none rfl) rfl rfl (gu_GrantX gq rm pm cr cp RA PA mk ct [clR (.slice none 0 0), juR (.slice none 0 0)] [(annS, clerkS)] annS clerkS (by decide) (by have h1 := hG.ctl annS; simp only [List.length_cons, List.length_nil] at h1; omega) _ _ (hp.ownsT 4) hO hG) rfl ?_
 rintro v0 w ⟨hv, PA, cp, ct, hO, hG, hk⟩
 have hp := hp.turnsT 4 hk
 obtain rfl : v0 = .int .i64 9 := hv.trans (by rw [(wk4 (.slice none 0 0) (.slice none 0 0)).1])
 rw [(wk4 (.slice none 0 0) (.slice none 0 0)).2] at hG
 refine GL_rd (v := .int .i64 9) (wn_none rfl) rfl (rd_assign rfl rfl) ?_
 refine GL_nil ?_
 refine GW_seq ?_
 refine GW_region ?_
 refine GL_rd (v := .pointer (some ⟨gq, 0, none⟩)) (wn_none rfl) rfl (rd_move rfl rfl) ?_
 have hp := ((((hp.front 3 rfl).front 3 rfl).front 3 rfl).front 3 rfl)
 refine GL_call (wn_none rfl) rfl rfl (gu_GrantX gq rm pm cr cp RA PA mk ct [clR (.slice none 0 0), juR (.slice none 0 0)] [(annS, clerkS)] bobS judgeS (by decide) (by have h1 := hG.ctl bobS; simp only [List.length_cons, List.length_nil] at h1; omega) _ _ (hp.ownsT 4) hO hG) rfl ?_
 rintro v0 w ⟨hv, PA, cp, ct, hO, hG, hk⟩
 have hp := hp.turnsT 4 hk
 obtain rfl : v0 = .int .i64 0 := hv.trans (by rw [(wk5 (.slice none 0 0) (.slice none 0 0)).1])
 rw [(wk5 (.slice none 0 0) (.slice none 0 0)).2] at hG
 refine GL_rd (v := .int .i64 0) (wn_none rfl) rfl (rd_assign rfl rfl) ?_
 refine GL_nil ?_
 refine GW_seq ?_
 refine GW_region ?_
 refine GL_rd (v := .pointer (some ⟨gq, 0, none⟩)) (wn_none rfl) rfl (rd_move rfl rfl) ?_
 have hp := ((((hp.front 3 rfl).front 3 rfl).front 3 rfl).front 3 rfl)
 refine GL_call (wn_none rfl) rfl rfl (gu_GrantX gq rm pm cr cp RA PA mk ct [clR (.slice none 0 0), juR (.slice none 0 0)] [(annS, clerkS), (bobS, judgeS)] bobS noneS (by decide) (by have h1 := hG.ctl bobS; simp only [List.length_cons, List.length_nil] at h1; omega) _ _ (hp.ownsT 4) hO hG) rfl ?_
 rintro v0 w ⟨hv, PA, cp, ct, hO, hG, hk⟩
 have hp := hp.turnsT 4 hk
 obtain rfl : v0 = .int .i64 8 := hv.trans (by rw [(wk6 (.slice none 0 0) (.slice none 0 0)).1])
 rw [(wk6 (.slice none 0 0) (.slice none 0 0)).2] at hG
 refine GL_rd (v := .int .i64 8) (wn_none rfl) rfl (rd_assign rfl rfl) ?_
 refine GL_nil ?_
 refine GW_seq ?_
 refine GW_region ?_
 refine GL_rd (v := .pointer (some ⟨gq, 0, none⟩)) (wn_none rfl) rfl (rd_move rfl rfl) ?_
 refine GL_rd (wn_none rfl) rfl (rd_buildS (L := (rqC ⟨5, ⟨#[]⟩, ⟨#[120]⟩, ⟨#[]⟩, 0, false, false, .slice none 0 0, a32Z, .slice none 0 0⟩)) rfl tz69 pl69 (by kernel_rfl)) ?_
 have hp := hp.packNil
 have hp := (((((hp.front 0 rfl).front 4 rfl).front 4 rfl).front 4 rfl).front 4 rfl)
 refine GL_call (wn_none rfl) rfl rfl (gu_Do gq rm pm cr cp RA PA mk ct annS 52 [] ⟨5, ⟨#[]⟩, ⟨#[120]⟩, ⟨#[]⟩, 0, false, false, .slice none 0 0, a32Z, .slice none 0 0⟩ (packL []) (fun a : Nat × Obj => .blk a.1 a.2) (fun p a => ∀ w, (Res.blk a.1 a.2).at_ w → Sl w p.data 1 annS.size (bys annS.data.toList)) _ _ (hp.ownsT 5) hO (fun w1 h1 => law_gworks1 _ w1 (by decide))) rfl ?_
 rintro _ w ⟨p1, rfl, hp1, hk⟩
 rw [if_pos (show mayB mk ct annS _ = true by rw [hG.may]; exact wk7 (.slice none 0 0) (.slice none 0 0))] at hk
 obtain ⟨a1, hC1, hk⟩ := hk
 have hp := hp.turnsT 5 hk
 refine GL_alloc (wn_none rfl) rfl rfl tz71 rfl hp ?_
 intro g3 w hp
 refine GL_store (i := 0) (wn_none rfl) rfl rfl rfl rfl ts71 rfl (rpC_len _) (rpC_one hp1) hp rfl (by first | exact Nat.le_of_ble_eq_true rfl | (rw [rpC_len]; decide)) (splice_all _ _ (by first | rw [rpC_len, rpC_len] | (rw [rpC_len]; rfl))) ?_
 intro w hp
 refine GL_nil ?_
 refine GW_seq ?_
 refine GW_region ?_
 refine GL_rd (v := .pointer (some ⟨gq, 0, none⟩)) (wn_none rfl) rfl (rd_move rfl rfl) ?_
 refine GL_rd (wn_none rfl) rfl (rd_buildS (L := (rqC ⟨7, ⟨#[]⟩, ⟨#[]⟩, ⟨#[]⟩, 0, false, false, .slice none 0 0, a32Z, .slice none 0 0⟩)) rfl tz69 pl69 (by kernel_rfl)) ?_
 have hp := hp.packNil
 have hp := (((((hp.front 0 rfl).front 5 rfl).front 5 rfl).front 5 rfl).front 5 rfl)
 refine GL_call (wn_none rfl) rfl rfl (gu_Do gq rm pm cr cp RA PA mk ct annS 53 [] ⟨7, ⟨#[]⟩, ⟨#[]⟩, ⟨#[]⟩, 0, false, false, .slice none 0 0, a32Z, .slice none 0 0⟩ (packL []) (fun _ : Unit => packL []) (fun p a => True) _ _ (hp.ownsT 5) hO (fun w1 h1 => (law_gworks2 _ w1).mono (fun v w' h => ⟨rpZ, (), h.1, rpZ_one, trivial, h.2.packNil⟩))) rfl ?_
 rintro _ w ⟨p2, rfl, hp2, hk⟩
 rw [if_neg (show ¬ mayB mk ct annS _ = true by rw [hG.may, show mayR _ _ _ _ = false from wk8 (.slice none 0 0) (.slice none 0 0)]; decide)] at hk
 obtain ⟨rfl, hk⟩ := hk
 have hp := hp.turnsT 5 hk
 refine GL_alloc (wn_none rfl) rfl rfl tz71 rfl hp ?_
 intro g4 w hp
 refine GL_store (i := 0) (wn_none rfl) rfl rfl rfl rfl ts71 rfl (rpC_len _) (rpC_one hp2) hp rfl (by first | exact Nat.le_of_ble_eq_true rfl | (rw [rpC_len]; decide)) (splice_all _ _ (by first | rw [rpC_len, rpC_len] | (rw [rpC_len]; rfl))) ?_
 intro w hp
 refine GL_nil ?_
 refine GW_seq ?_
 refine GW_region ?_
 refine GL_rd (v := .pointer (some ⟨gq, 0, none⟩)) (wn_none rfl) rfl (rd_move rfl rfl) ?_
 refine GL_call (wn_none rfl) rfl rfl (gu_Apart gq rm pm cr cp RA PA mk ct 3 7 _ ⟨hp.get 1 rfl, hp.get 2 rfl, hp.get 3 rfl, hp.get 4 rfl⟩ hO) rfl ?_
 rintro v0 w ⟨hv, hk⟩
 have hp := hp.comp hk
 obtain rfl : v0 = .bool true := hv.trans (by rw [hG.apart, wkA (.slice none 0 0) (.slice none 0 0)])
 refine GL_rd (v := .bool _) (wn_none rfl) rfl (rd_assign rfl rfl) ?_
 refine GL_nil ?_
 refine GW_seq ?_
 refine GW_region ?_
 refine GL_rd (v := .pointer (some ⟨gq, 0, none⟩)) (wn_none rfl) rfl (rd_move rfl rfl) ?_
 refine GL_call (wn_none rfl) rfl rfl (gu_Roles gq rm pm cr cp RA PA mk ct _ ⟨hp.get 1 rfl, hp.get 2 rfl, hp.get 3 rfl, hp.get 4 rfl⟩ hO (by rw [hG.rlen hO]; decide)) rfl ?_
 rintro vr w ⟨xs, hxs, hk⟩
 have hp := hp.comp hk
 rw [hG.roles hO hxs] at hp
 obtain ⟨gRo, cRo, rfl, _⟩ := row_addr (hp.get 0 rfl) (by decide)
 refine GL_rd (v := .slice _ _ _) (wn_none rfl) rfl (rd_assign rfl rfl) ?_
 refine GL_nil ?_
 refine GW_seq ?_
 refine GW_region ?_
 refine GL_rd (v := .pointer (some ⟨gq, 0, none⟩)) (wn_none rfl) rfl (rd_move rfl rfl) ?_
 refine GL_call (wn_none rfl) rfl rfl (gu_Who gq rm pm cr cp RA PA mk ct 7 _ ⟨hp.get 2 rfl, hp.get 3 rfl, hp.get 4 rfl, hp.get 5 rfl⟩ hO (by rw [hG.plen hO, wkp2]; decide)) rfl ?_
 rintro vw w ⟨xs2, hxs2, hk⟩
 have hp := hp.comp hk
 rw [hG.sorted hO hxs2, wkp2, may7 (by rw [hG.may]; exact wk8 (.slice none 0 0) (.slice none 0 0)) (by rw [hG.may]; exact wk9 (.slice none 0 0) (.slice none 0 0))] at hp
 obtain ⟨gWo, cWo, rfl, _⟩ := row_addr (hp.get 0 rfl) (by decide)
 refine GL_rd (v := .slice _ _ _) (wn_none rfl) rfl (rd_assign rfl rfl) ?_
 refine GL_nil ?_
 refine GW_seq ?_
 refine GW_region ?_
 refine GL_rd (v := .pointer (some ⟨gq, 0, none⟩)) (wn_none rfl) rfl (rd_move rfl rfl) ?_
 have hp := ((((hp.front 6 rfl).front 6 rfl).front 6 rfl).front 6 rfl)
 refine GL_call (wn_none rfl) rfl rfl (gu_RevokeX gq rm pm cr cp RA PA mk ct [clR (.slice none 0 0), juR (.slice none 0 0)] [(annS, clerkS), (bobS, judgeS)] bobS judgeS (by have h1 := hG.ctl bobS; simp only [List.length_cons, List.length_nil] at h1; omega) _ _ (hp.ownsT 4) hO hG) rfl ?_
 rintro v0 w ⟨hv, PA, cp, ct, hO, hG, hk⟩
 have hp := hp.turnsT 4 hk
 obtain rfl : v0 = .int .i64 0 := hv.trans (by rw [wk10.1])
 rw [wk10.2] at hG
 refine GL_rd (v := .int .i64 0) (wn_none rfl) rfl (rd_assign rfl rfl) ?_
 refine GL_nil ?_
 refine GW_seq ?_
 have hmk : mk clerkS = ofBt [3, 5, 99] := hG.mks (clR _) List.mem_cons_self
 have hct : ct annS = [clerkS] := by rw [hG.cts]; rfl
 have hr : ((rigB mk (ct annS)).toNat : Int) = ((ofBt [5, 3]).toNat : Int) := by rw [hct, ← wkF, ← hmk]; rfl
 refine GW_region ?_
 refine GL_rd (v := .int .i64 0) (wn_none rfl) rfl (rd_move rfl rfl) ?_
 refine GL_rd (wn_none rfl) rfl (rd_bin rfl rfl rfl bo_eql) ?_
 refine GL_rd (v := .bool _) (wn_none rfl) rfl (rd_move rfl rfl) ?_
 refine GL_split (t := 51) (b := _) rfl ?_ ?_
 ·intro hb; (try simp only [decide_eq_true_eq, decide_eq_false_iff_not, Bool.not_eq_true', Bool.not_eq_false', Bool.not_eq_eq_eq_not, Bool.not_true, Bool.not_false, Int.not_lt, Int.not_le] at hb)
  refine GL_rd (v := .int .i64 0) (wn_on rfl rfl rfl rfl) rfl (rd_move rfl rfl) ?_
  refine GL_rd (wn_on rfl rfl rfl rfl) rfl (rd_bin rfl rfl rfl bo_eql) ?_
  refine GL_rd (v := .bool _) (wn_none rfl) rfl (rd_pickT rfl rfl rfl) ?_
  refine GL_rd (v := .bool _) (wn_none rfl) rfl (rd_move rfl rfl) ?_
  refine GL_split (t := 55) (b := _) rfl ?_ ?_
  ·intro hb2; (try simp only [decide_eq_true_eq, decide_eq_false_iff_not, Bool.not_eq_true', Bool.not_eq_false', Bool.not_eq_eq_eq_not, Bool.not_true, Bool.not_false, Int.not_lt, Int.not_le] at hb2)
   refine GL_rd (v := .int .i64 0) (wn_on rfl rfl rfl rfl) rfl (rd_move rfl rfl) ?_
   refine GL_rd (wn_on rfl rfl rfl rfl) rfl (rd_bin rfl rfl rfl bo_eql) ?_
   refine GL_rd (v := .bool _) (wn_none rfl) rfl (rd_pickT rfl rfl rfl) ?_
   refine GL_rd (v := .bool _) (wn_none rfl) rfl (rd_move rfl rfl) ?_
   refine GL_split (t := 59) (b := _) rfl ?_ ?_
   ·intro hb3; (try simp only [decide_eq_true_eq, decide_eq_false_iff_not, Bool.not_eq_true', Bool.not_eq_false', Bool.not_eq_eq_eq_not, Bool.not_true, Bool.not_false, Int.not_lt, Int.not_le] at hb3)
    refine GL_rd (v := .int .i64 9) (wn_on rfl rfl rfl rfl) rfl (rd_move rfl rfl) ?_
    refine GL_rd (wn_on rfl rfl rfl rfl) rfl (rd_bin rfl rfl rfl bo_eql) ?_
    refine GL_rd (v := .bool _) (wn_none rfl) rfl (rd_pickT rfl rfl rfl) ?_
    refine GL_rd (v := .bool _) (wn_none rfl) rfl (rd_move rfl rfl) ?_
    refine GL_split (t := 63) (b := _) rfl ?_ ?_
    ·intro hb4; (try simp only [decide_eq_true_eq, decide_eq_false_iff_not, Bool.not_eq_true', Bool.not_eq_false', Bool.not_eq_eq_eq_not, Bool.not_true, Bool.not_false, Int.not_lt, Int.not_le] at hb4)
     refine GL_rd (v := .int .i64 0) (wn_on rfl rfl rfl rfl) rfl (rd_move rfl rfl) ?_
     refine GL_rd (wn_on rfl rfl rfl rfl) rfl (rd_bin rfl rfl rfl bo_eql) ?_
     refine GL_rd (v := .bool _) (wn_none rfl) rfl (rd_pickT rfl rfl rfl) ?_
     refine GL_rd (v := .bool _) (wn_none rfl) rfl (rd_move rfl rfl) ?_
     refine GL_split (t := 67) (b := _) rfl ?_ ?_
     ·intro hb5; (try simp only [decide_eq_true_eq, decide_eq_false_iff_not, Bool.not_eq_true', Bool.not_eq_false', Bool.not_eq_eq_eq_not, Bool.not_true, Bool.not_false, Int.not_lt, Int.not_le] at hb5)
      refine GL_rd (v := .int .i64 8) (wn_on rfl rfl rfl rfl) rfl (rd_move rfl rfl) ?_
      refine GL_rd (wn_on rfl rfl rfl rfl) rfl (rd_bin rfl rfl rfl bo_eql) ?_
      refine GL_rd (v := .bool _) (wn_none rfl) rfl (rd_pickT rfl rfl rfl) ?_
      refine GL_rd (v := .bool _) (wn_none rfl) rfl (rd_move rfl rfl) ?_
      refine GL_split (t := 71) (b := _) rfl ?_ ?_
      ·intro hb6; (try simp only [decide_eq_true_eq, decide_eq_false_iff_not, Bool.not_eq_true', Bool.not_eq_false', Bool.not_eq_eq_eq_not, Bool.not_true, Bool.not_false, Int.not_lt, Int.not_le] at hb6)
       refine GL_rd (wn_on rfl rfl rfl rfl) rfl (rd_field rfl rfl fa71_2 _ rfl) ?_
       refine GL_rd (wn_on rfl rfl rfl rfl) rfl (rd_load rfl rfl Try.underlying33 rfl ((cell_of_cells (hp.get 8 rfl) _).trans (rp_data _))) ?_
       refine GL_rd (wn_on rfl rfl rfl rfl) rfl (rd_toStr rfl rfl Try.underlying33 Try.underlying9 Try.underlying5 (hC1 _ (hp.get 9 rfl))) ?_
       refine GL_rd (wn_on rfl rfl rfl rfl) rfl (rd_bin rfl rfl rfl bo_seql) ?_
       refine GL_rd (v := .bool _) (wn_none rfl) rfl (rd_pickT rfl rfl rfl) ?_
       refine GL_rd (v := .bool _) (wn_none rfl) rfl (rd_move rfl rfl) ?_
       refine GL_split (t := 77) (b := _) rfl ?_ ?_
       ·intro hb7; (try simp only [decide_eq_true_eq, decide_eq_false_iff_not, Bool.not_eq_true', Bool.not_eq_false', Bool.not_eq_eq_eq_not, Bool.not_true, Bool.not_false, Int.not_lt, Int.not_le] at hb7)
        refine GL_rd (wn_on rfl rfl rfl rfl) rfl (rd_field rfl rfl fa71_0 _ rfl) ?_
        refine GL_rd (wn_on rfl rfl rfl rfl) rfl (rd_load rfl rfl Try.underlying24 rfl ((cell_of_cells (hp.get 6 rfl) _).trans (rp_code _))) ?_
        refine GL_rd (wn_on rfl rfl rfl rfl) rfl (rd_bin rfl rfl rfl bo_eql) ?_
        refine GL_rd (v := .bool _) (wn_none rfl) rfl (rd_pickT rfl rfl rfl) ?_
        refine GL_rd (v := .bool _) (wn_none rfl) rfl (rd_move rfl rfl) ?_
        refine GL_split (t := 82) (b := _) rfl ?_ ?_
        ·intro hb8; (try simp only [decide_eq_true_eq, decide_eq_false_iff_not, Bool.not_eq_true', Bool.not_eq_false', Bool.not_eq_eq_eq_not, Bool.not_true, Bool.not_false, Int.not_lt, Int.not_le] at hb8)
         refine GL_rd (v := .bool _) (wn_on rfl rfl rfl rfl) rfl (rd_move rfl rfl) ?_
         refine GL_rd (v := .bool _) (wn_none rfl) rfl (rd_pickT rfl rfl rfl) ?_
         refine GL_rd (v := .bool _) (wn_none rfl) rfl (rd_move rfl rfl) ?_
         refine GL_rd (v := .slice _ _ _) (wn_on rfl rfl rfl rfl) rfl (rd_move rfl rfl) ?_
         refine GL_rd (wn_on rfl rfl rfl rfl) rfl (rd_len rfl rfl Try.underlying56) ?_
         refine GL_rd (wn_on rfl rfl rfl rfl) rfl (rd_bin rfl rfl rfl bo_eql) ?_
         refine GL_rd (v := .bool _) (wn_none rfl) rfl (rd_pickT rfl rfl rfl) ?_
         refine GL_rd (v := .bool _) (wn_none rfl) rfl (rd_move rfl rfl) ?_
         refine GL_split (t := 90) (b := _) rfl ?_ ?_
         ·intro hb9; (try simp only [decide_eq_true_eq, decide_eq_false_iff_not, Bool.not_eq_true', Bool.not_eq_false', Bool.not_eq_eq_eq_not, Bool.not_true, Bool.not_false, Int.not_lt, Int.not_le] at hb9)
          refine GL_rd (v := .slice _ _ _) (wn_on rfl rfl rfl rfl) rfl (rd_move rfl rfl) ?_
          refine GL_rd (wn_on rfl rfl rfl rfl) rfl (rd_indexS (j := 0) rfl rfl rfl Try.underlying56 ts59 rfl (by decide) _ rfl) ?_
          refine GL_rd (wn_on rfl rfl rfl rfl) rfl (rd_field rfl rfl fa59_1 _ rfl) ?_
          refine GL_rd (wn_on rfl rfl rfl rfl) rfl (rd_load rfl rfl Try.underlying38 rfl (show World.cell? _ _ = _ from (Sl.row (hp.get 5 rfl)).get 1 _ rfl)) ?_
          refine GL_call (wn_on rfl rfl rfl rfl) rfl rfl (gu_Has (mk clerkS) 5 _) rfl ?_
          rintro v0 w ⟨hv, hk⟩
          have hp := hp.comp hk
          obtain rfl : v0 = .bool true := hv.trans (by rw [hmk]; exact congrArg _ wkH)
          refine GL_rd (v := .bool _) (wn_none rfl) rfl (rd_pickT rfl rfl rfl) ?_
          refine GL_rd (v := .bool _) (wn_none rfl) rfl (rd_move rfl rfl) ?_
          refine GL_rd (v := .slice _ _ _) (wn_on rfl rfl rfl rfl) rfl (rd_move rfl rfl) ?_
          refine GL_rd (wn_on rfl rfl rfl rfl) rfl (rd_indexS (j := 0) rfl rfl rfl Try.underlying56 ts59 rfl (by decide) _ rfl) ?_
          refine GL_rd (wn_on rfl rfl rfl rfl) rfl (rd_field rfl rfl fa59_1 _ rfl) ?_
          refine GL_rd (wn_on rfl rfl rfl rfl) rfl (rd_load rfl rfl Try.underlying38 rfl (show World.cell? _ _ = _ from (Sl.row (hp.get 5 rfl)).get 1 _ rfl)) ?_
          refine GL_call (wn_on rfl rfl rfl rfl) rfl rfl (gu_Ops (mk clerkS) _) rfl ?_
          intro vo w hk
          have hp := hp.comp hk
          rw [hmk, wkO] at hp
          obtain ⟨Ao, co, rfl⟩ := row_shape (hp.get 0 rfl)
          refine GL_rd (wn_on rfl rfl rfl rfl) rfl (rd_len rfl rfl Try.underlying36) ?_
          refine GL_rd (wn_on rfl rfl rfl rfl) rfl (rd_bin rfl rfl rfl bo_eql) ?_
          refine GL_rd (v := .bool _) (wn_none rfl) rfl (rd_pickT rfl rfl rfl) ?_
          refine GL_rd (v := .bool _) (wn_none rfl) rfl (rd_move rfl rfl) ?_
          refine GL_split (t := 106) (b := _) rfl ?_ ?_
          ·intro hb10; (try simp only [decide_eq_true_eq, decide_eq_false_iff_not, Bool.not_eq_true', Bool.not_eq_false', Bool.not_eq_eq_eq_not, Bool.not_true, Bool.not_false, Int.not_lt, Int.not_le] at hb10)
           refine GL_rd (v := .slice _ _ _) (wn_on rfl rfl rfl rfl) rfl (rd_move rfl rfl) ?_
           refine GL_rd (wn_on rfl rfl rfl rfl) rfl (rd_len rfl rfl Try.underlying62) ?_
           refine GL_rd (wn_on rfl rfl rfl rfl) rfl (rd_bin rfl rfl rfl bo_eql) ?_
           refine GL_rd (v := .bool _) (wn_none rfl) rfl (rd_pickT rfl rfl rfl) ?_
           refine GL_rd (v := .bool _) (wn_none rfl) rfl (rd_move rfl rfl) ?_
           refine GL_split (t := 111) (b := _) rfl ?_ ?_
           ·intro hb11; (try simp only [decide_eq_true_eq, decide_eq_false_iff_not, Bool.not_eq_true', Bool.not_eq_false', Bool.not_eq_eq_eq_not, Bool.not_true, Bool.not_false, Int.not_lt, Int.not_le] at hb11)
            refine GL_rd (v := .slice _ _ _) (wn_on rfl rfl rfl rfl) rfl (rd_move rfl rfl) ?_
            refine GL_rd (wn_on rfl rfl rfl rfl) rfl (rd_indexS (j := 0) rfl rfl rfl Try.underlying62 ts9 rfl (by decide) _ rfl) ?_
            refine GL_rd (wn_on rfl rfl rfl rfl) rfl (rd_load rfl rfl Try.underlying9 rfl (show World.cell? _ _ = _ from (Sl.row (hp.get 5 rfl)).get 0 _ rfl)) ?_
            refine GL_rd (wn_on rfl rfl rfl rfl) rfl (rd_bin rfl rfl rfl bo_seql) ?_
            refine GL_rd (v := .bool _) (wn_none rfl) rfl (rd_pickT rfl rfl rfl) ?_
            refine GL_rd (v := .bool _) (wn_none rfl) rfl (rd_move rfl rfl) ?_
            refine GL_split (t := 117) (b := _) rfl ?_ ?_
            ·intro hb12; (try simp only [decide_eq_true_eq, decide_eq_false_iff_not, Bool.not_eq_true', Bool.not_eq_false', Bool.not_eq_eq_eq_not, Bool.not_true, Bool.not_false, Int.not_lt, Int.not_le] at hb12)
             refine GL_rd (v := .int .i64 0) (wn_on rfl rfl rfl rfl) rfl (rd_move rfl rfl) ?_
             refine GL_rd (wn_on rfl rfl rfl rfl) rfl (rd_bin rfl rfl rfl bo_eql) ?_
             refine GL_rd (v := .bool _) (wn_none rfl) rfl (rd_pickT rfl rfl rfl) ?_
             refine GL_rd (v := .bool _) (wn_none rfl) rfl (rd_move rfl rfl) ?_
             refine GL_split (t := 121) (b := _) rfl ?_ ?_
             ·intro hb13; (try simp only [decide_eq_true_eq, decide_eq_false_iff_not, Bool.not_eq_true', Bool.not_eq_false', Bool.not_eq_eq_eq_not, Bool.not_true, Bool.not_false, Int.not_lt, Int.not_le] at hb13)
              refine GL_rd (v := .pointer (some ⟨gq, 0, none⟩)) (wn_on rfl rfl rfl rfl) rfl (rd_move rfl rfl) ?_
              refine GL_call (wn_on rfl rfl rfl rfl) rfl rfl (gu_May gq rm pm cr cp RA PA mk ct bobS 7 _ ⟨hp.get 1 rfl, hp.get 2 rfl, hp.get 3 rfl, hp.get 4 rfl⟩ hO) rfl ?_
              rintro v0 w ⟨hv, hk⟩
              have hp := hp.comp hk
              obtain rfl : v0 = .bool false := hv.trans (by rw [hG.may, wk11 (.slice none 0 0) (.slice none 0 0)])
              refine GL_rd (wn_on rfl rfl rfl rfl) rfl (rd_not rfl rfl) ?_
              refine GL_rd (v := .bool _) (wn_none rfl) rfl (rd_pickT rfl rfl rfl) ?_
              refine GL_rd (v := .bool _) (wn_none rfl) rfl (rd_move rfl rfl) ?_
              refine GL_rd (v := .pointer (some ⟨gq, 0, none⟩)) (wn_on rfl rfl rfl rfl) rfl (rd_move rfl rfl) ?_
              refine GL_call (wn_on rfl rfl rfl rfl) rfl rfl (gu_Rights gq rm pm cr cp RA PA mk ct annS _ ⟨hp.get 1 rfl, hp.get 2 rfl, hp.get 3 rfl, hp.get 4 rfl⟩ hO) rfl ?_
              rintro _ w ⟨rfl, hk⟩
              have hp := hp.comp hk
              refine GL_lit (L := [.int .i64 5, .int .i64 3]) (wn_on rfl rfl rfl rfl) rfl rfl Try.underlying36 ts3 tz3 rfl (by kernel_rfl) rfl rfl hp ?_
              intro g5 w hp
              refine GL_call (wn_on rfl rfl rfl rfl) rfl rfl (gu_Of _ 2 [5, 3] _ (Sl.row (hp.get 0 rfl))) rfl ?_
              rintro _ w ⟨rfl, hk⟩
              have hp := hp.comp hk
              refine GL_rd (wn_on rfl rfl rfl rfl) rfl (rd_bin rfl rfl rfl bo_eql) ?_
              refine GL_rd (v := .bool _) (wn_none rfl) rfl (rd_pickT rfl rfl rfl) ?_
              refine GL_rd (v := .bool _) (wn_none rfl) rfl (rd_assign rfl rfl) ?_
              refine GL_nil ?_
              refine GW_ret ?_
              exact ⟨_, res1 Try.results14 (rv_tmp (v := .bool _) rfl rfl), by rw [decide_eq_true hr], hp.mods⟩
             ·intro hb13; (try simp only [decide_eq_true_eq, decide_eq_false_iff_not, Bool.not_eq_true', Bool.not_eq_false', Bool.not_eq_eq_eq_not, Bool.not_true, Bool.not_false, Int.not_lt, Int.not_le] at hb13)
              first | exact absurd rfl hb13 | exact absurd trivial hb13 | exact (by simp at hb13)
            ·intro hb12; (try simp only [decide_eq_true_eq, decide_eq_false_iff_not, Bool.not_eq_true', Bool.not_eq_false', Bool.not_eq_eq_eq_not, Bool.not_true, Bool.not_false, Int.not_lt, Int.not_le] at hb12)
             first | exact absurd rfl hb12 | exact absurd trivial hb12 | exact (by simp at hb12)
           ·intro hb11; (try simp only [decide_eq_true_eq, decide_eq_false_iff_not, Bool.not_eq_true', Bool.not_eq_false', Bool.not_eq_eq_eq_not, Bool.not_true, Bool.not_false, Int.not_lt, Int.not_le] at hb11)
            first | exact absurd rfl hb11 | exact absurd trivial hb11 | exact (by simp at hb11)
          ·intro hb10; (try simp only [decide_eq_true_eq, decide_eq_false_iff_not, Bool.not_eq_true', Bool.not_eq_false', Bool.not_eq_eq_eq_not, Bool.not_true, Bool.not_false, Int.not_lt, Int.not_le] at hb10)
           first | exact absurd rfl hb10 | exact absurd trivial hb10 | exact (by simp at hb10)
         ·intro hb9; (try simp only [decide_eq_true_eq, decide_eq_false_iff_not, Bool.not_eq_true', Bool.not_eq_false', Bool.not_eq_eq_eq_not, Bool.not_true, Bool.not_false, Int.not_lt, Int.not_le] at hb9)
          first | exact absurd rfl hb9 | exact absurd trivial hb9 | exact (by simp at hb9)
        ·intro hb8; (try simp only [decide_eq_true_eq, decide_eq_false_iff_not, Bool.not_eq_true', Bool.not_eq_false', Bool.not_eq_eq_eq_not, Bool.not_true, Bool.not_false, Int.not_lt, Int.not_le] at hb8)
         first | exact absurd rfl hb8 | exact absurd trivial hb8 | exact (by simp at hb8)
       ·intro hb7; (try simp only [decide_eq_true_eq, decide_eq_false_iff_not, Bool.not_eq_true', Bool.not_eq_false', Bool.not_eq_eq_eq_not, Bool.not_true, Bool.not_false, Int.not_lt, Int.not_le] at hb7)
        first | exact absurd rfl hb7 | exact absurd trivial hb7 | exact (by simp at hb7)
      ·intro hb6; (try simp only [decide_eq_true_eq, decide_eq_false_iff_not, Bool.not_eq_true', Bool.not_eq_false', Bool.not_eq_eq_eq_not, Bool.not_true, Bool.not_false, Int.not_lt, Int.not_le] at hb6)
       first | exact absurd rfl hb6 | exact absurd trivial hb6 | exact (by simp at hb6)
     ·intro hb5; (try simp only [decide_eq_true_eq, decide_eq_false_iff_not, Bool.not_eq_true', Bool.not_eq_false', Bool.not_eq_eq_eq_not, Bool.not_true, Bool.not_false, Int.not_lt, Int.not_le] at hb5)
      first | exact absurd rfl hb5 | exact absurd trivial hb5 | exact (by simp at hb5)
    ·intro hb4; (try simp only [decide_eq_true_eq, decide_eq_false_iff_not, Bool.not_eq_true', Bool.not_eq_false', Bool.not_eq_eq_eq_not, Bool.not_true, Bool.not_false, Int.not_lt, Int.not_le] at hb4)
     first | exact absurd rfl hb4 | exact absurd trivial hb4 | exact (by simp at hb4)
   ·intro hb3; (try simp only [decide_eq_true_eq, decide_eq_false_iff_not, Bool.not_eq_true', Bool.not_eq_false', Bool.not_eq_eq_eq_not, Bool.not_true, Bool.not_false, Int.not_lt, Int.not_le] at hb3)
    first | exact absurd rfl hb3 | exact absurd trivial hb3 | exact (by simp at hb3)
  ·intro hb2; (try simp only [decide_eq_true_eq, decide_eq_false_iff_not, Bool.not_eq_true', Bool.not_eq_false', Bool.not_eq_eq_eq_not, Bool.not_true, Bool.not_false, Int.not_lt, Int.not_le] at hb2)
   first | exact absurd rfl hb2 | exact absurd trivial hb2 | exact (by simp at hb2)
 ·intro hb; (try simp only [decide_eq_true_eq, decide_eq_false_iff_not, Bool.not_eq_true', Bool.not_eq_false', Bool.not_eq_eq_eq_not, Bool.not_true, Bool.not_false, Int.not_lt, Int.not_le] at hb)
  first | exact absurd rfl hb | exact absurd trivial hb | exact (by simp at hb)
set_option maxHeartbeats 2000000 in
theorem law_GuardRights (sv : Value) (m : Nat) (l : List Int) (bits : Nat) (op : Int) (w0 : World) (hI : Sl w0 sv 1 m (l.map (Value.int .i64))) (hbt : bits ≤ 4294967295) : Does Try.prog 4 #[sv, .int .u32 (bits : Int), .int .i64 op] w0 fun v w' => v = .bool true ∧ Hp w0 [] w' [] := by
 obtain ⟨A, c, rfl⟩ := sl_shape hI
 have hlm : l.length = m := by have := hI.len; rw [List.length_map] at this; omega
 have hmle := hI.le
 have hol := opsL_len l 18
 obtain ⟨b, rfl⟩ : ∃ b : BitVec 32, bits = b.toNat := ⟨BitVec.ofNat 32 bits, by simp; omega⟩
 refine does_of (l := [.slice A m c, .int .u32 (b.toNat : Int), .int .i64 op]) Try.func4 (by kernel_rfl) rfl Try.ntmps4 rfl rfl (by kernel_rfl) ?_
 have hp := Hp.refl w0 []
 refine GW_seq ?_
 refine GW_region ?_
 refine GL_rd (v := .bool _) (wn_none rfl) rfl (rd_assign rfl rfl) ?_
 refine GL_nil ?_
 refine GW_seq ?_
 refine GW_seq ?_
 refine GW_region ?_
 refine GL_rd (v := .slice _ _ _) (wn_none rfl) rfl (rd_move rfl rfl) ?_
 refine GL_rd (wn_none rfl) rfl (rd_len rfl rfl Try.underlying36) ?_
 refine GL_rd (wn_none rfl) rfl (rd_bin rfl rfl rfl bo_gtr) ?_
 refine GL_nil ?_
 refine GW_cond rfl (fun hb => ?_) (fun hb => ?_)
 ·(try simp only [decide_eq_true_eq, decide_eq_false_iff_not, Bool.not_eq_true', Bool.not_eq_false', Bool.not_eq_eq_eq_not, Bool.not_true, Bool.not_false, Int.not_lt, Int.not_le] at hb)
  refine GW_seq ?_
  refine GW_region ?_
  refine GL_call (wn_none rfl) rfl rfl (law_gworks _) rfl ?_
  rintro _ w ⟨rfl, hk⟩
  have hp := hp.comp hk
  refine GL_rd (v := .bool _) (wn_none rfl) rfl (rd_assign rfl rfl) ?_
  refine GL_nil ?_
  refine GW_ret ?_
  exact ⟨_, res1 Try.results4 (rv_tmp (v := .bool _) rfl rfl), rfl, hp.mods⟩
 ·(try simp only [decide_eq_true_eq, decide_eq_false_iff_not, Bool.not_eq_true', Bool.not_eq_false', Bool.not_eq_eq_eq_not, Bool.not_true, Bool.not_false, Int.not_lt, Int.not_le] at hb)
  refine GW_skip ?_
  refine GW_seq ?_
  refine GW_region ?_
  refine GL_rd (v := .slice _ _ _) (wn_none rfl) rfl (rd_move rfl rfl) ?_
  refine GL_call (wn_none rfl) rfl rfl (gu_Of _ m l _ (hI.keep hp.mod)) rfl ?_
  rintro _ w ⟨rfl, hk⟩
  have hp := hp.comp hk
  refine GL_rd (v := .int .u32 ((ofBt l).toNat : Int)) (wn_none rfl) rfl (rd_assign rfl rfl) ?_
  refine GL_nil ?_
  refine GW_seq ?_
  refine GW_region ?_
  refine GL_rd (v := .slice _ _ _) (wn_none rfl) rfl (rd_move rfl rfl) ?_
  refine GL_call (wn_none rfl) rfl rfl (ref_gOps _ m l _ (hI.keep hp.mod)) rfl ?_
  intro vo w hk
  have hp := hp.comp hk
  obtain ⟨Ao, co, rfl⟩ := row_shape (hp.get 0 rfl)
  refine GL_rd (v := .slice _ _ _) (wn_none rfl) rfl (rd_assign rfl rfl) ?_
  refine GL_nil ?_
  refine GW_seq ?_
  refine GW_region ?_
  refine GL_rd (v := .bool _) (wn_none rfl) rfl (rd_assign rfl rfl) ?_
  refine GL_nil ?_
  refine GW_seq ?_
  refine GW_seq ?_
  refine GW_region ?_
  refine GL_rd (v := .int _ _) (wn_none rfl) rfl (rd_assign rfl rfl) ?_
  refine GL_nil ?_
  refine GW_block ?_
  refine GW_loop ?_
  refine Lp_ind (α := Nat × Option Addr) (fun a_0 f_0 w' => match a_0 with | (i, Ao) => ∃ fz, f_0 = (upd (upd (upd (upd (upd (upd fz 8 (.slice Ao (opsL l 18).length co)) 9 (.bool (metO ((opsL l 18).take i) op))) 10 (.int .i64 (i : Int))) 1 (.int .u32 (b.toNat : Int))) 2 (.int .i64 op)) 7 (.int .u32 ((ofBt l).toNat : Int))) ∧ Hp w0 [] w' [.row 3 1 (.slice Ao (opsL l 18).length co) ((opsL l 18)).length (((opsL l 18)).map (Value.int .i64))] ∧ (i ≤ (opsL l 18).length)) (fun a_0 => match a_0 with | (i, Ao) => (opsL l 18).length - i) ?_ (0, Ao) _ _ ?_
  ·rintro ⟨i, Ao⟩ f wz ⟨fz, rfl, hp, hi0⟩ ihL0
   refine Lp_round ?_
   refine GW_seq ?_
   refine GW_seq ?_
   refine GW_region ?_
   refine GL_rd (v := .int _ _) (wn_none rfl) rfl (rd_move rfl rfl) ?_
   refine GL_rd (v := .slice _ _ _) (wn_none rfl) rfl (rd_move rfl rfl) ?_
   refine GL_rd (wn_none rfl) rfl (rd_len rfl rfl Try.underlying36) ?_
   refine GL_rd (wn_none rfl) rfl (rd_bin rfl rfl rfl bo_lss) ?_
   refine GL_nil ?_
   refine GW_cond rfl (fun hb2 => ?_) (fun hb2 => ?_)
   ·(try simp only [decide_eq_true_eq, decide_eq_false_iff_not, Bool.not_eq_true', Bool.not_eq_false', Bool.not_eq_eq_eq_not, Bool.not_true, Bool.not_false, Int.not_lt, Int.not_le] at hb2)
    obtain ⟨gO, bO, rfl⟩ := (Sl.row (hp.get 0 rfl)).addr (by rw [List.length_map]; omega)
    refine GW_skip ?_
    refine GW_seq ?_
    refine GW_block ?_
    refine GW_region ?_
    refine GL_rd (v := .bool _) (wn_none rfl) rfl (rd_move rfl rfl) ?_
    refine GL_rd (v := .bool _) (wn_none rfl) rfl (rd_move rfl rfl) ?_
    refine GL_split (t := 28) (b := _) rfl ?_ ?_
    ·intro hb3; (try simp only [decide_eq_true_eq, decide_eq_false_iff_not, Bool.not_eq_true', Bool.not_eq_false', Bool.not_eq_eq_eq_not, Bool.not_true, Bool.not_false, Int.not_lt, Int.not_le] at hb3)
     have hkn : metO ((opsL l 18).take i) op = true := hb3
     refine GL_pass (nw_off rfl rfl rfl rfl rfl) rfl ?_
     refine GL_pass (nw_off rfl rfl rfl rfl rfl) rfl ?_
     refine GL_pass (nw_off rfl rfl rfl rfl rfl) rfl ?_
     refine GL_pass (nw_off rfl rfl rfl rfl rfl) rfl ?_
     refine GL_pass (nw_off rfl rfl rfl rfl rfl) rfl ?_
     refine GL_pass (nw_off rfl rfl rfl rfl rfl) rfl ?_
     refine GL_rd (v := .bool _) (wn_none rfl) rfl (rd_pickT rfl rfl rfl) ?_
     refine GL_rd (v := .bool _) (wn_none rfl) rfl (rd_assign rfl rfl) ?_
     refine GL_nil ?_
     refine GW_region ?_
     refine GL_rd (v := .int _ _) (wn_none rfl) rfl (rd_move rfl rfl) ?_
     refine GL_rd (wn_none rfl) rfl (rd_bin rfl rfl rfl (bo_add64 (by omega))) ?_
     refine GL_rd (v := .int _ _) (wn_none rfl) rfl (rd_assign rfl rfl) ?_
     refine GL_nil ?_
     have hp := ((hp.front 0 rfl).take 1)
     exact ihL0 (i + 1, _) _ _ (by simp only []; omega) ⟨_, slots6 rfl (by rw [metO_take (by omega), hkn]; rfl) rfl rfl rfl rfl, hp, by omega⟩
    ·intro hb3; (try simp only [decide_eq_true_eq, decide_eq_false_iff_not, Bool.not_eq_true', Bool.not_eq_false', Bool.not_eq_eq_eq_not, Bool.not_true, Bool.not_false, Int.not_lt, Int.not_le] at hb3)
     have hkn : metO ((opsL l 18).take i) op = false := hb3
     refine GL_rd (v := .slice _ _ _) (wn_on rfl rfl rfl rfl) rfl (rd_move rfl rfl) ?_
     refine GL_rd (v := .int _ _) (wn_on rfl rfl rfl rfl) rfl (rd_move rfl rfl) ?_
     refine GL_rd (wn_on rfl rfl rfl rfl) rfl (rd_indexS (j := i) rfl rfl rfl Try.underlying36 ts3 rfl (by omega) _ rfl) ?_
     refine GL_rd (wn_on rfl rfl rfl rfl) rfl (rd_load rfl rfl Try.underlying3 rfl ((Sl.row (hp.get 0 rfl)).get _ _ (intAt_cell (l := (opsL l 18)) (i := i) (by omega)))) ?_
     refine GL_rd (v := .int _ _) (wn_on rfl rfl rfl rfl) rfl (rd_move rfl rfl) ?_
     refine GL_rd (wn_on rfl rfl rfl rfl) rfl (rd_bin rfl rfl rfl bo_eql) ?_
     refine GL_rd (v := .bool _) (wn_none rfl) rfl (rd_pickF rfl rfl rfl) ?_
     refine GL_rd (v := .bool _) (wn_none rfl) rfl (rd_assign rfl rfl) ?_
     refine GL_nil ?_
     refine GW_region ?_
     refine GL_rd (v := .int _ _) (wn_none rfl) rfl (rd_move rfl rfl) ?_
     refine GL_rd (wn_none rfl) rfl (rd_bin rfl rfl rfl (bo_add64 (by omega))) ?_
     refine GL_rd (v := .int _ _) (wn_none rfl) rfl (rd_assign rfl rfl) ?_
     refine GL_nil ?_
     have hp := ((hp.front 0 rfl).take 1)
     exact ihL0 (i + 1, _) _ _ (by simp only []; omega) ⟨_, slots6 rfl (by rw [metO_take (by omega), hkn]; rfl) rfl rfl rfl rfl, hp, by omega⟩
   ·(try simp only [decide_eq_true_eq, decide_eq_false_iff_not, Bool.not_eq_true', Bool.not_eq_false', Bool.not_eq_eq_eq_not, Bool.not_true, Bool.not_false, Int.not_lt, Int.not_le] at hb2)
    refine GW_exit ?_
    refine GW_seq ?_
    refine GW_seq ?_
    refine GW_region ?_
    refine GL_rd (v := .int .u32 ((ofBt l).toNat : Int)) (wn_none rfl) rfl (rd_move rfl rfl) ?_
    refine GL_call (wn_none rfl) rfl rfl (gu_Ops (ofBt l) _) rfl ?_
    intro vp w hk
    have hp := hp.comp hk
    refine GL_rd (v := .slice _ _ _) (wn_none rfl) rfl (rd_move rfl rfl) ?_
    refine GL_call (wn_none rfl) rfl rfl (law_gints _ _ _ _ (opsK (ofBt l) 18) (opsL l 18) _ (Sl.row (hp.get 0 rfl)) (Sl.row (hp.get 1 rfl))) rfl ?_
    rintro v0 w ⟨hv, hk⟩
    have hp := hp.comp hk
    obtain rfl : v0 = .bool true := hv.trans (by rw [decide_eq_true (ops_same l)])
    refine GL_rd (wn_none rfl) rfl (rd_not rfl rfl) ?_
    refine GL_rd (v := .bool _) (wn_none rfl) rfl (rd_move rfl rfl) ?_
    refine GL_rd (v := .int .u32 ((ofBt l).toNat : Int)) (wn_on rfl rfl rfl rfl) rfl (rd_move rfl rfl) ?_
    refine GL_rd (v := .int _ _) (wn_on rfl rfl rfl rfl) rfl (rd_move rfl rfl) ?_
    refine GL_call (wn_on rfl rfl rfl rfl) rfl rfl (gu_Has (ofBt l) op _) rfl ?_
    rintro _ w ⟨rfl, hk⟩
    have hp := hp.comp hk
    refine GL_rd (v := .bool _) (wn_on rfl rfl rfl rfl) rfl (rd_move rfl rfl) ?_
    refine GL_rd (wn_on rfl rfl rfl rfl) rfl (rd_bin rfl rfl rfl (bo_boolE (q := false) (bo_bneq Try.underlying4) (by rw [has_met, metO, List.take_of_length_le (by omega)]; simp))) ?_
    refine GL_rd (v := .bool _) (wn_none rfl) rfl (rd_pickF rfl rfl rfl) ?_
    refine GL_nil ?_
    refine GW_false rfl ?_
    refine GW_skip ?_
    refine GW_seq ?_
    refine GW_region ?_
    refine GL_rd (v := .int _ _) (wn_none rfl) rfl (rd_move rfl rfl) ?_
    refine GL_rd (v := .int _ _) (wn_none rfl) rfl (rd_assign rfl rfl) ?_
    refine GL_nil ?_
    refine GW_seq ?_
    refine GW_region ?_
    refine GL_rd (v := .int _ _) (wn_none rfl) rfl (rd_move rfl rfl) ?_
    refine GL_call (wn_none rfl) rfl rfl (gu_Ops b _) rfl ?_
    intro vq w hk
    have hp := hp.comp hk
    refine GL_rd (v := vq) (wn_none rfl) rfl (rd_assign rfl rfl) ?_
    refine GL_nil ?_
    refine GW_seq ?_
    refine GW_region ?_
    refine GL_rd (v := vq) (wn_none rfl) rfl (rd_move rfl rfl) ?_
    refine GL_call (wn_none rfl) rfl rfl (gu_Of _ _ (opsK b 18) _ (Sl.row (hp.get 0 rfl))) rfl ?_
    rintro _ w ⟨rfl, hk⟩
    have hp := hp.comp hk
    refine GL_rd (v := .int _ _) (wn_none rfl) rfl (rd_move rfl rfl) ?_
    refine GL_lit (L := [.int .i64 1, .int .i64 2, .int .i64 3, .int .i64 4, .int .i64 5, .int .i64 6, .int .i64 7, .int .i64 8, .int .i64 9, .int .i64 10, .int .i64 11, .int .i64 12, .int .i64 13, .int .i64 14, .int .i64 15, .int .i64 16, .int .i64 17, .int .i64 18]) (wn_none rfl) rfl rfl Try.underlying36 ts3 tz3 rfl (by kernel_rfl) rfl rfl hp ?_
    intro g w hp
    refine GL_call (wn_none rfl) rfl rfl (ref_gOps _ 18 (allK 18) _ (show Sl _ _ 1 18 ((allK 18).map (Value.int .i64)) from Sl.row (hp.get 0 rfl))) rfl ?_
    intro vs w hk
    have hp := hp.comp hk
    refine GL_call (wn_none rfl) rfl rfl (gu_Of _ _ (opsL (allK 18) 18) _ (Sl.row (hp.get 0 rfl))) rfl ?_
    rintro _ w ⟨rfl, hk⟩
    have hp := hp.comp hk
    refine GL_rd (wn_none rfl) rfl (rd_bin rfl rfl rfl (bo_andV _ _)) ?_
    refine GL_rd (wn_none rfl) rfl (rd_bin rfl rfl rfl (bo_boolE (q := true) bo_eql (by rw [of_ops]; simp))) ?_
    refine GL_rd (v := .bool _) (wn_none rfl) rfl (rd_move rfl rfl) ?_
    refine GL_call (wn_on rfl rfl rfl rfl) rfl rfl (law_gworks _) rfl ?_
    rintro _ w ⟨rfl, hk⟩
    have hp := hp.comp hk
    refine GL_rd (v := .bool _) (wn_none rfl) rfl (rd_pickT rfl rfl rfl) ?_
    refine GL_rd (v := .bool _) (wn_none rfl) rfl (rd_assign rfl rfl) ?_
    refine GL_nil ?_
    refine GW_ret ?_
    exact ⟨_, res1 Try.results4 (rv_tmp (v := .bool _) rfl rfl), rfl, hp.mods⟩
  ·refine ⟨_, slots6 rfl rfl rfl rfl rfl rfl, hp, Nat.zero_le _⟩
end Go.Proofs.Ytpagpmioopaciaa
