/- Walks of functions of the program. -/
import Derived.Test.YtpagpmioopaciaaGFGua
import Derived.Test.YtpagpmioopaciaaGFKey
import Derived.Test.YtpagpmioopaciaaGGuaG
set_option linter.unusedVariables false
set_option linter.unusedSimpArgs false
namespace Go.Proofs.Ytpagpmioopaciaa
open Go.Mo Go.RowKit
theorem gu_Rights (gq rm pm cr cp : Nat) (RA PA : AL) (mk : MK) (ct : CT) (who : ByteArray) (w0 : World) (hG : GuAt 9 137 gq rm pm RA cr PA cp ct w0) (hO : GuOk RA cr mk PA cp ct) : Does Try.prog 55 #[.pointer (some ⟨gq, 0, none⟩), .string who] w0 fun v w' => v = .int .u32 ((rigB mk (ct who)).toNat : Int) ∧ Hp w0 [] w' [] := by
 have hL := hG.look hO.pno who
 obtain ⟨A, c, hsv⟩ := sl_shape hL
 rw [hsv] at hL
 have hle := hL.le
 refine does_of (l := [.pointer (some ⟨gq, 0, none⟩), .string who]) Try.func55 (by kernel_rfl) rfl Try.ntmps55 rfl rfl (by kernel_rfl) ?_
 have hp := Hp.refl w0 []
 refine GW_seq ?_
 refine GW_region ?_
 refine GL_rd (v := .int _ _) (wn_none rfl) rfl (rd_assign rfl rfl) ?_
 refine GL_nil ?_
 refine GW_seq ?_
 refine GW_region ?_
 refine GL_rd (v := .int _ _) (wn_none rfl) rfl (rd_assign rfl rfl) ?_
 refine GL_nil ?_
 refine GW_seq ?_
 refine GW_seq ?_
 refine GW_region ?_
 refine GL_rd (v := .pointer (some ⟨_, _, none⟩)) (wn_none rfl) rfl (rd_move rfl rfl) ?_
 refine GL_rd (wn_none rfl) rfl (rd_nilCheck rfl rfl) ?_
 refine GL_rd (wn_none rfl) rfl (rd_field rfl rfl fa137_1 _ rfl) ?_
 refine GL_rd (wn_none rfl) rfl (rd_load rfl rfl Try.underlying135 rfl ((cell_of_cells (cells.keep hG.g hp.mod) _).trans rfl)) ?_
 refine GL_rd (v := .string _) (wn_none rfl) rfl (rd_move rfl rfl) ?_
 refine GL_rd (wn_none rfl) rfl (rd_eq (rd_lookA1 rfl rfl rfl Try.underlying135 Try.underlying9 tz62 (hG.keep hp.mod).p) hsv) ?_
 refine GL_rd (wn_none rfl) rfl (rd_len rfl rfl Try.underlying62) ?_
 refine GL_rd (v := .int _ _) (wn_none rfl) rfl (rd_move rfl rfl) ?_
 refine GL_nil ?_
 refine GW_block ?_
 refine GW_loop ?_
 refine Lp_ind (α := Nat × Option Addr) (fun a_0 f_0 w' => match a_0 with | (i, A) => ∃ fz, f_0 = (upd (upd (upd (upd (upd fz 0 (.pointer (some ⟨gq, 0, none⟩))) 5 (.int .u32 ((rigB mk ((ct who).take i)).toNat : Int))) 13 (.slice A (ct who).length c)) 14 (.int .i64 ((ct who).length : Int))) 15 (.int .i64 (i : Int))) ∧ Hp w0 [] w' [] ∧ (i ≤ (ct who).length) ∧ (Sl w0 (.slice A (ct who).length c) 1 (ct who).length ((ct who).map Value.string))) (fun a_0 => match a_0 with | (i, A) => (ct who).length - i) ?_ (0, A) _ _ ?_
 ·rintro ⟨i, A⟩ f wz ⟨fz, rfl, hp, hi0, hL⟩ ihL0
  refine Lp_round ?_
  refine GW_seq ?_
  refine GW_region ?_
  refine GL_rd (wn_none rfl) rfl (rd_bin rfl rfl rfl bo_lss) ?_
  refine GL_nil ?_
  refine GW_seq ?_
  refine GW_cond rfl (fun hb => ?_) (fun hb => ?_)
  ·(try simp only [decide_eq_true_eq, decide_eq_false_iff_not, Bool.not_eq_true', Bool.not_eq_false', Bool.not_eq_eq_eq_not, Bool.not_true, Bool.not_false, Int.not_lt, Int.not_le] at hb)
   obtain ⟨gA, bA, rfl⟩ := hL.addr (by rw [List.length_map]; omega)
   refine GW_skip ?_
   refine GW_seq ?_
   refine GW_block ?_
   refine GW_seq ?_
   refine GW_region ?_
   refine GL_rd (wn_none rfl) rfl (rd_indexS (j := i) rfl rfl rfl Try.underlying62 ts9 rfl (by omega) _ rfl) ?_
   refine GL_rd (wn_none rfl) rfl (rd_load rfl rfl Try.underlying9 rfl ((hL.keep hp.mod).get _ _ (strAt_cell (l := ct who) (i := i) (by omega)))) ?_
   refine GL_rd (v := .string _) (wn_none rfl) rfl (rd_assign rfl rfl) ?_
   refine GL_nil ?_
   obtain ⟨nm, hnm⟩ := hO.role (strAt (ct who) i)
   refine GW_region ?_
   refine GL_rd (v := .int _ _) (wn_none rfl) rfl (rd_move rfl rfl) ?_
   refine GL_rd (v := .pointer (some ⟨_, _, none⟩)) (wn_none rfl) rfl (rd_move rfl rfl) ?_
   refine GL_rd (wn_none rfl) rfl (rd_nilCheck rfl rfl) ?_
   refine GL_rd (wn_none rfl) rfl (rd_field rfl rfl fa137_0 _ rfl) ?_
   refine GL_rd (wn_none rfl) rfl (rd_load rfl rfl Try.underlying134 rfl ((cell_of_cells (cells.keep hG.g hp.mod) _).trans rfl)) ?_
   refine GL_rd (v := .string _) (wn_none rfl) rfl (rd_move rfl rfl) ?_
   refine GL_rd (wn_none rfl) rfl (rd_eq (rd_lookA1 rfl rfl rfl Try.underlying134 Try.underlying9 tz59 (hG.keep hp.mod).r) hnm) ?_
   refine GL_rd (wn_none rfl) rfl (rd_fieldV rfl rfl Try.underlying59 rfl Try.underlying38 rfl rfl) ?_
   refine GL_rd (wn_none rfl) rfl (rd_bin rfl rfl rfl (bo_orV _ _)) ?_
   refine GL_rd (v := .int _ _) (wn_none rfl) rfl (rd_assign rfl rfl) ?_
   refine GL_nil ?_
   refine GW_region ?_
   refine GL_rd (wn_none rfl) rfl (rd_bin rfl rfl rfl (bo_add64 (by omega))) ?_
   refine GL_rd (v := .int _ _) (wn_none rfl) rfl (rd_move rfl rfl) ?_
   refine GL_nil ?_
   exact ihL0 (i + 1, _) _ _ (by simp only []; omega) ⟨_, slots5 rfl (by rw [rigB_take _ (by omega)]; first | done | rfl) rfl rfl rfl, hp, by omega, hL⟩
  ·(try simp only [decide_eq_true_eq, decide_eq_false_iff_not, Bool.not_eq_true', Bool.not_eq_false', Bool.not_eq_eq_eq_not, Bool.not_true, Bool.not_false, Int.not_lt, Int.not_le] at hb)
   obtain rfl : i = (ct who).length := by omega
   refine GW_exit ?_
   refine GW_seq ?_
   refine GW_region ?_
   refine GL_rd (v := .int _ _) (wn_none rfl) rfl (rd_move rfl rfl) ?_
   refine GL_rd (v := .int _ _) (wn_none rfl) rfl (rd_assign rfl rfl) ?_
   refine GL_nil ?_
   refine GW_ret ?_
   exact ⟨_, res1 Try.results55 (rv_tmp (v := .int _ _) rfl rfl), by rw [List.take_length], hp⟩
 ·refine ⟨_, slots5 rfl rfl rfl rfl rfl, hp, Nat.zero_le _, hL⟩
theorem gu_May (gq rm pm cr cp : Nat) (RA PA : AL) (mk : MK) (ct : CT) (who : ByteArray) (op : Int) (w0 : World) (hG : GuAt 9 137 gq rm pm RA cr PA cp ct w0) (hO : GuOk RA cr mk PA cp ct) : Does Try.prog 22 #[.pointer (some ⟨gq, 0, none⟩), .string who, .int .i64 op] w0 fun v w' => v = .bool (mayB mk ct who op) ∧ Hp w0 [] w' [] := by
 refine does_of (l := [.pointer (some ⟨gq, 0, none⟩), .string who, .int .i64 op]) Try.func22 (by kernel_rfl) rfl Try.ntmps22 rfl rfl (by kernel_rfl) ?_
 have hp := Hp.refl w0 []
 refine GW_seq ?_
 refine GW_region ?_
 refine GL_rd (v := .bool _) (wn_none rfl) rfl (rd_assign rfl rfl) ?_
 refine GL_nil ?_
 refine GW_seq ?_
 refine GW_region ?_
 refine GL_rd (v := .pointer (some ⟨_, _, none⟩)) (wn_none rfl) rfl (rd_move rfl rfl) ?_
 refine GL_rd (v := .string _) (wn_none rfl) rfl (rd_move rfl rfl) ?_
 refine GL_call (wn_none rfl) rfl rfl (gu_Rights gq rm pm cr cp RA PA mk ct who _ (hG.keep hp.mod) hO) rfl ?_
 rintro _ w ⟨rfl, hk⟩
 have hp := hp.comp hk
 refine GL_rd (v := .int _ _) (wn_none rfl) rfl (rd_move rfl rfl) ?_
 refine GL_call (wn_none rfl) rfl rfl (gu_Has _ op _) rfl ?_
 rintro _ w ⟨rfl, hk⟩
 have hp := hp.comp hk
 refine GL_rd (v := .bool _) (wn_none rfl) rfl (rd_assign rfl rfl) ?_
 refine GL_nil ?_
 refine GW_ret ?_
 exact ⟨_, res1 Try.results22 (rv_tmp (v := .bool _) rfl rfl), rfl, hp.mods⟩
set_option maxHeartbeats 1000000 in
theorem gu_Who (gq rm pm cr cp : Nat) (RA PA : AL) (mk : MK) (ct : CT) (op : Int) (w0 : World) (hG : GuAt 9 137 gq rm pm RA cr PA cp ct w0) (hO : GuOk RA cr mk PA cp ct) (hPL : PA.length ≤ 65000) : Does Try.prog 25 #[.pointer (some ⟨gq, 0, none⟩), .int .i64 op] w0 fun v w' => ∃ xs, keysOf PA xs ∧ Hp w0 [] w' [.row 9 1 v (((sortS xs).filter (fun s => mayB mk ct s op))).length ((((sortS xs).filter (fun s => mayB mk ct s op))).map Value.string)] := by
 refine does_of (l := [.pointer (some ⟨gq, 0, none⟩), .int .i64 op]) Try.func25 (by kernel_rfl) rfl Try.ntmps25 rfl rfl (by kernel_rfl) ?_
 have hp := Hp.refl w0 []
 refine GW_seq ?_
 refine GW_region ?_
 refine GL_rd (v := .slice _ _ _) (wn_none rfl) rfl (rd_assign rfl rfl) ?_
 refine GL_nil ?_
 refine GW_seq ?_
 refine GW_region ?_
 refine GL_rd (v := .slice _ _ _) (wn_none rfl) rfl (rd_assign rfl rfl) ?_
 refine GL_nil ?_
 refine GW_seq ?_
 refine GW_seq ?_
 refine GW_region ?_
 refine GL_rd (v := .pointer (some ⟨_, _, none⟩)) (wn_none rfl) rfl (rd_move rfl rfl) ?_
 refine GL_rd (wn_none rfl) rfl (rd_nilCheck rfl rfl) ?_
 refine GL_rd (wn_none rfl) rfl (rd_field rfl rfl fa137_1 _ rfl) ?_
 refine GL_rd (wn_none rfl) rfl (rd_load rfl rfl Try.underlying135 rfl ((cell_of_cells (cells.keep hG.g hp.mod) _).trans rfl)) ?_
 refine GL_call (wn_none rfl) rfl rfl (keys_1 pm cp PA _) rfl ?_
 rintro _ w ⟨ga, rfl, hk⟩
 have hp := hp.comp hk
 refine GL_call (wn_none rfl) rfl rfl (seq_Sorted 93 [.pointer (some ⟨ga, 0, none⟩)] (keysOf PA) (OwnK 135 ga pm cp PA) (keys_It1 ga pm cp PA hO.pok) (fun w w' h hm => ⟨Res.kept h.1 hm (by simp), Res.kept h.2 hm (by simp)⟩) (fun xs h => by rw [keysOf_len h]; omega) _ ⟨hp.get 0 rfl, (hG.keep hp.mod).p⟩) rfl ?_
 rintro vs w ⟨xs, hxs, hk⟩
 have hp := hp.comp hk
 obtain ⟨As, cs, rfl⟩ := row_shape (hp.get 0 rfl)
 have hxl : (sortS xs).length ≤ 65000 := by rw [sortS_lenG, keysOf_len hxs]; exact hPL
 refine GL_rd (wn_none rfl) rfl (rd_len rfl rfl Try.underlying62) ?_
 refine GL_rd (v := .int _ _) (wn_none rfl) rfl (rd_move rfl rfl) ?_
 refine GL_nil ?_
 refine GW_block ?_
 refine GW_loop ?_
 refine Lp_ind (α := Nat × Value × Option Addr) (fun a_0 f_0 w' => match a_0 with | (i, y, As) => ∃ fz, f_0 = (upd (upd (upd (upd (upd (upd fz 0 (.pointer (some ⟨gq, 0, none⟩))) 1 (.int .i64 op)) 5 (y)) 13 (.slice As (sortS xs).length cs)) 14 (.int .i64 ((sortS xs).length : Int))) 15 (.int .i64 (i : Int))) ∧ Hp w0 [] w' [.row 9 1 y ((((sortS xs).take i).filter (fun s => mayB mk ct s op))).length (((((sortS xs).take i).filter (fun s => mayB mk ct s op))).map Value.string), .row 9 1 (.slice As (sortS xs).length cs) ((sortS xs)).length (((sortS xs)).map Value.string)] ∧ (i ≤ (sortS xs).length)) (fun a_0 => match a_0 with | (i, y, As) => (sortS xs).length - i) ?_ (0, .slice none 0 0, As) _ _ ?_
 ·rintro ⟨i, y, As⟩ f wz ⟨fz, rfl, hp, hi0⟩ ihL0
  refine Lp_round ?_
  refine GW_seq ?_
  refine GW_region ?_
  refine GL_rd (wn_none rfl) rfl (rd_bin rfl rfl rfl bo_lss) ?_
  refine GL_nil ?_
  refine GW_seq ?_
  refine GW_cond rfl (fun hb => ?_) (fun hb => ?_)
  ·(try simp only [decide_eq_true_eq, decide_eq_false_iff_not, Bool.not_eq_true', Bool.not_eq_false', Bool.not_eq_eq_eq_not, Bool.not_true, Bool.not_false, Int.not_lt, Int.not_le] at hb)
   obtain ⟨gS, bS, rfl⟩ := (Sl.row (hp.get 1 rfl)).addr (by rw [List.length_map]; omega)
   refine GW_skip ?_
   refine GW_seq ?_
   refine GW_block ?_
   refine GW_seq ?_
   refine GW_region ?_
   refine GL_rd (wn_none rfl) rfl (rd_indexS (j := i) rfl rfl rfl Try.underlying62 ts9 rfl (by omega) _ rfl) ?_
   refine GL_rd (wn_none rfl) rfl (rd_load rfl rfl Try.underlying9 rfl ((Sl.row (hp.get 1 rfl)).get _ _ (strAt_cell (l := (sortS xs)) (i := i) (by omega)))) ?_
   refine GL_rd (v := .string _) (wn_none rfl) rfl (rd_assign rfl rfl) ?_
   refine GL_nil ?_
   refine GW_seq ?_
   refine GW_region ?_
   refine GL_rd (v := .pointer (some ⟨_, _, none⟩)) (wn_none rfl) rfl (rd_move rfl rfl) ?_
   refine GL_rd (v := .string _) (wn_none rfl) rfl (rd_move rfl rfl) ?_
   refine GL_rd (v := .int _ _) (wn_none rfl) rfl (rd_move rfl rfl) ?_
   refine GL_call (wn_none rfl) rfl rfl (gu_May gq rm pm cr cp RA PA mk ct (strAt (sortS xs) i) op _ (hG.keep hp.mod) hO) rfl ?_
   rintro _ w ⟨rfl, hk⟩
   have hp := hp.comp hk
   refine GL_nil ?_
   refine GW_cond rfl (fun hb2 => ?_) (fun hb2 => ?_)
   ·(try simp only [decide_eq_true_eq, decide_eq_false_iff_not, Bool.not_eq_true', Bool.not_eq_false', Bool.not_eq_eq_eq_not, Bool.not_true, Bool.not_false, Int.not_lt, Int.not_le] at hb2)
    have e1 := filtS_yes (p := (fun s => mayB mk ct s op)) (l := (sortS xs)) (i := i) (by omega) hb2
    refine GW_region ?_
    refine GL_rd (v := y) (wn_none rfl) rfl (rd_move rfl rfl) ?_
    refine GL_rd (v := .string _) (wn_none rfl) rfl (rd_move rfl rfl) ?_
    refine GL_lit (L := [.string (strAt (sortS xs) i)]) (wn_none rfl) rfl rfl Try.underlying62 ts9 tz9 rfl (by kernel_rfl) rfl rfl hp ?_
    intro g w hp
    refine GL_append (i := 1) (wn_none rfl) rfl rfl rfl rfl Try.underlying62 ti9 rfl (by decide) hp rfl (Sl.row (hp.get 0 rfl)) (one1 rfl) (by have h1 := List.length_filter_le (fun s => mayB mk ct s op) ((sortS xs).take i); rw [List.length_take] at h1; omega) (by have h1 := List.length_filter_le (fun s => mayB mk ct s op) ((sortS xs).take i); rw [List.length_take] at h1; omega) ?_
    intro v w hp
    rw [stR_snocG, ← e1] at hp
    refine GL_rd (v := v) (wn_none rfl) rfl (rd_assign rfl rfl) ?_
    refine GL_nil ?_
    refine GW_region ?_
    refine GL_rd (wn_none rfl) rfl (rd_bin rfl rfl rfl (bo_add64 (by omega))) ?_
    refine GL_rd (v := .int _ _) (wn_none rfl) rfl (rd_move rfl rfl) ?_
    refine GL_nil ?_
    have hp := (((hp.front 2 rfl).front 2 rfl).take 2)
    exact ihL0 (i + 1, v, _) _ _ (by simp only []; omega) ⟨_, slots6 rfl rfl rfl rfl rfl rfl, hp, by omega⟩
   ·(try simp only [decide_eq_true_eq, decide_eq_false_iff_not, Bool.not_eq_true', Bool.not_eq_false', Bool.not_eq_eq_eq_not, Bool.not_true, Bool.not_false, Int.not_lt, Int.not_le] at hb2)
    have e1 := filtS_no (p := (fun s => mayB mk ct s op)) (l := (sortS xs)) (i := i) (by omega) hb2
    refine GW_skip ?_
    refine GW_region ?_
    refine GL_rd (wn_none rfl) rfl (rd_bin rfl rfl rfl (bo_add64 (by omega))) ?_
    refine GL_rd (v := .int _ _) (wn_none rfl) rfl (rd_move rfl rfl) ?_
    refine GL_nil ?_
    rw [← e1] at hp
    have hp := (((hp.front 1 rfl).front 1 rfl).take 2)
    exact ihL0 (i + 1, y, _) _ _ (by simp only []; omega) ⟨_, slots6 rfl rfl rfl rfl rfl rfl, hp, by omega⟩
  ·(try simp only [decide_eq_true_eq, decide_eq_false_iff_not, Bool.not_eq_true', Bool.not_eq_false', Bool.not_eq_eq_eq_not, Bool.not_true, Bool.not_false, Int.not_lt, Int.not_le] at hb)
   obtain rfl : i = (sortS xs).length := by omega
   rw [List.take_length] at hp
   refine GW_exit ?_
   refine GW_seq ?_
   refine GW_region ?_
   refine GL_rd (v := y) (wn_none rfl) rfl (rd_move rfl rfl) ?_
   refine GL_rd (v := y) (wn_none rfl) rfl (rd_assign rfl rfl) ?_
   refine GL_nil ?_
   refine GW_ret ?_
   have hp := ((hp.front 0 rfl).take 1)
   exact ⟨_, res1 Try.results25 (rv_tmp (v := y) rfl rfl), _, hxs, hp⟩
 ·have hp := ((hp.front 0 rfl).take 1)
  have hp := hp.nilRow 9 1
  refine ⟨_, slots6 rfl rfl rfl rfl rfl rfl, hp, Nat.zero_le _⟩
theorem gu_Apart (gq rm pm cr cp : Nat) (RA PA : AL) (mk : MK) (ct : CT) (a b : Int) (w0 : World) (hG : GuAt 9 137 gq rm pm RA cr PA cp ct w0) (hO : GuOk RA cr mk PA cp ct) : Does Try.prog 29 #[.pointer (some ⟨gq, 0, none⟩), .int .i64 a, .int .i64 b] w0 fun v w' => v = .bool ((PA.map (·.1)).all fun s => !(mayB mk ct s a && mayB mk ct s b)) ∧ Hp w0 [] w' [] := by
 refine does_of (l := [.pointer (some ⟨gq, 0, none⟩), .int .i64 a, .int .i64 b]) Try.func29 (by kernel_rfl) rfl Try.ntmps29 rfl rfl (by kernel_rfl) ?_
 have hp := Hp.refl w0 []
 refine GW_seq ?_
 refine GW_region ?_
 refine GL_rd (v := .bool _) (wn_none rfl) rfl (rd_assign rfl rfl) ?_
 refine GL_nil ?_
 refine GW_seq ?_
 refine GW_seq ?_
 refine GW_region ?_
 refine GL_rd (v := .pointer (some ⟨_, _, none⟩)) (wn_none rfl) rfl (rd_move rfl rfl) ?_
 refine GL_rd (wn_none rfl) rfl (rd_nilCheck rfl rfl) ?_
 refine GL_rd (wn_none rfl) rfl (rd_field rfl rfl fa137_1 _ rfl) ?_
 refine GL_rd (wn_none rfl) rfl (rd_load rfl rfl Try.underlying135 rfl ((cell_of_cells (cells.keep hG.g hp.mod) _).trans rfl)) ?_
 refine GL_rangeX (wn_none rfl) rfl rfl rfl Try.underlying135 hp (hG.keep hp.mod).p ?_
 intro r w hge hlt hmd hp
 refine GL_nil ?_
 refine GW_block ?_
 refine GW_loop ?_
 refine Lp_ind (α := AL × Array Nat) (fun a_0 f_0 w' => match a_0 with | (q, seen) => ∃ fz, f_0 = (upd (upd (upd (upd fz 0 (.pointer (some ⟨gq, 0, none⟩))) 1 (.int .i64 a)) 2 (.int .i64 b)) 12 (.pointer (some ⟨r, 0, none⟩))) ∧ Hp w0 [] w' [.blk r (.mapIter (some pm) cp seen cp)] ∧ (Came PA q seen) ∧ (∀ s ∈ q.map (·.1), (mayB mk ct s a && mayB mk ct s b) = false)) (fun a_0 => match a_0 with | (q, seen) => (leftOf ⟨alE PA⟩ seen).size) ?_ ([], #[]) _ _ ?_
 ·rintro ⟨q, seen⟩ f wz ⟨fz, rfl, hp, hc, hq⟩ ihL0
  refine Lp_round ?_
  refine GW_seq ?_
  refine GW_region ?_
  refine GL_nextX (i := 0) (wn_none rfl) rfl rfl rfl hp rfl (hG.keep hp.mod).p hO.pok.oldE (Nat.le_refl _) (fun h0 => ?_) (fun e w he hp => ?_)
  ·skip
   refine GL_rd (v := .bool _) (wn_none rfl) rfl (rd_extract rfl rfl rfl) ?_
   refine GL_nil ?_
   refine GW_seq ?_
   refine GW_false rfl ?_
   refine GW_exit ?_
   refine GW_seq ?_
   refine GW_region ?_
   refine GL_rd (v := .bool _) (wn_none rfl) rfl (rd_assign rfl rfl) ?_
   refine GL_nil ?_
   refine GW_ret ?_
   exact ⟨_, res1 Try.results29 (rv_tmp (v := .bool _) rfl rfl), by rw [apart_yes (hc.all hO.pok h0) hq], hp.mods⟩
  ·skip
   obtain ⟨a0, ha, rfl, hc2, s, hs⟩ := hc.step he
   refine GL_rd (v := .bool _) (wn_none rfl) rfl (rd_extract rfl rfl rfl) ?_
   refine GL_nil ?_
   refine GW_seq ?_
   refine GW_true rfl ?_
   refine GW_skip ?_
   refine GW_block ?_
   refine GW_seq ?_
   refine GW_region ?_
   refine GL_rd (wn_none rfl) rfl (rd_entry rfl rfl (hp.get 0 rfl) (hG.keep hp.mod).p (mem_left he).1 hO.pok.bornE) ?_
   refine GL_rd (v := .string _) (wn_none rfl) rfl (rd_extract rfl rfl rfl) ?_
   refine GL_rd (v := .string _) (wn_none rfl) rfl (rd_assign rfl rfl) ?_
   refine GL_nil ?_
   refine GW_seq ?_
   refine GW_region ?_
   refine GL_rd (v := .pointer (some ⟨_, _, none⟩)) (wn_none rfl) rfl (rd_move rfl rfl) ?_
   refine GL_rd (v := .string _) (wn_none rfl) rfl (rd_move rfl rfl) ?_
   refine GL_rd (v := .int _ _) (wn_none rfl) rfl (rd_move rfl rfl) ?_
   refine GL_call (wn_none rfl) rfl rfl (gu_May gq rm pm cr cp RA PA mk ct a0.1 a _ (hG.keep hp.mod) hO) rfl ?_
   rintro _ w ⟨rfl, hk⟩
   have hp := hp.comp hk
   refine GL_rd (v := .bool _) (wn_none rfl) rfl (rd_move rfl rfl) ?_
   refine GL_split (t := 21) (b := _) rfl ?_ ?_
   ·intro hb; (try simp only [decide_eq_true_eq, decide_eq_false_iff_not, Bool.not_eq_true', Bool.not_eq_false', Bool.not_eq_eq_eq_not, Bool.not_true, Bool.not_false, Int.not_lt, Int.not_le] at hb)
    have h1 := hb
    refine GL_rd (v := .pointer (some ⟨_, _, none⟩)) (wn_on rfl rfl rfl rfl) rfl (rd_move rfl rfl) ?_
    refine GL_rd (v := .string _) (wn_on rfl rfl rfl rfl) rfl (rd_move rfl rfl) ?_
    refine GL_rd (v := .int _ _) (wn_on rfl rfl rfl rfl) rfl (rd_move rfl rfl) ?_
    refine GL_call (wn_on rfl rfl rfl rfl) rfl rfl (gu_May gq rm pm cr cp RA PA mk ct a0.1 b _ (hG.keep hp.mod) hO) rfl ?_
    rintro _ w ⟨rfl, hk⟩
    have hp := hp.comp hk
    refine GL_rd (v := .bool _) (wn_none rfl) rfl (rd_pickT rfl rfl rfl) ?_
    refine GL_nil ?_
    refine GW_cond rfl (fun hb2 => ?_) (fun hb2 => ?_)
    ·(try simp only [decide_eq_true_eq, decide_eq_false_iff_not, Bool.not_eq_true', Bool.not_eq_false', Bool.not_eq_eq_eq_not, Bool.not_true, Bool.not_false, Int.not_lt, Int.not_le] at hb2)
     have h2 := hb2
     refine GW_seq ?_
     refine GW_region ?_
     refine GL_rd (v := .bool _) (wn_none rfl) rfl (rd_assign rfl rfl) ?_
     refine GL_nil ?_
     refine GW_ret ?_
     exact ⟨_, res1 Try.results29 (rv_tmp (v := .bool _) rfl rfl), by rw [apart_no ha h1 h2], hp.mods⟩
    ·(try simp only [decide_eq_true_eq, decide_eq_false_iff_not, Bool.not_eq_true', Bool.not_eq_false', Bool.not_eq_eq_eq_not, Bool.not_true, Bool.not_false, Int.not_lt, Int.not_le] at hb2)
     have hn : (mayB mk ct a0.1 a && mayB mk ct a0.1 b) = false := by rw [hb2, Bool.and_false]
     refine GW_skip ?_
     have hp := ((hp.front 0 rfl).take 1)
     exact ihL0 (q ++ [a0], _) _ _ (left_shrinks _ _ _ he) ⟨_, slots4 rfl rfl rfl rfl, hp, hc2, fun s hs => by rw [List.map_append] at hs; rcases List.mem_append.1 hs with h | h; exact hq s h; rw [List.mem_singleton.1 h]; exact hn⟩
   ·intro hb; (try simp only [decide_eq_true_eq, decide_eq_false_iff_not, Bool.not_eq_true', Bool.not_eq_false', Bool.not_eq_eq_eq_not, Bool.not_true, Bool.not_false, Int.not_lt, Int.not_le] at hb)
    have hn : (mayB mk ct a0.1 a && mayB mk ct a0.1 b) = false := by rw [hb]; rfl
    refine GL_pass (nw_off rfl rfl rfl rfl rfl) rfl ?_
    refine GL_pass (nw_off rfl rfl rfl rfl rfl) rfl ?_
    refine GL_pass (nw_off rfl rfl rfl rfl rfl) rfl ?_
    refine GL_pass (nw_off rfl rfl rfl rfl rfl) rfl ?_
    refine GL_rd (v := .bool _) (wn_none rfl) rfl (rd_pickF rfl rfl rfl) ?_
    refine GL_nil ?_
    refine GW_false rfl ?_
    refine GW_skip ?_
    have hp := ((hp.front 0 rfl).take 1)
    exact ihL0 (q ++ [a0], _) _ _ (left_shrinks _ _ _ he) ⟨_, slots4 rfl rfl rfl rfl, hp, hc2, fun s hs => by rw [List.map_append] at hs; rcases List.mem_append.1 hs with h | h; exact hq s h; rw [List.mem_singleton.1 h]; exact hn⟩
 ·refine ⟨_, slots4 rfl rfl rfl rfl, hp, Came.nil PA, by simp⟩
set_option maxHeartbeats 1000000 in
theorem gu_Roles (gq rm pm cr cp : Nat) (RA PA : AL) (mk : MK) (ct : CT) (w0 : World) (hG : GuAt 9 137 gq rm pm RA cr PA cp ct w0) (hO : GuOk RA cr mk PA cp ct) (hRL : RA.length ≤ 65000) : Does Try.prog 24 #[.pointer (some ⟨gq, 0, none⟩)] w0 fun v w' => ∃ xs, keysOf RA xs ∧ Hp w0 [] w' [.row 59 2 v ((sortS xs)).length (((sortS xs)).flatMap fun s => rolC s (mk s))] := by
 refine does_of (l := [.pointer (some ⟨gq, 0, none⟩)]) Try.func24 (by kernel_rfl) rfl Try.ntmps24 rfl rfl (by kernel_rfl) ?_
 have hp := Hp.refl w0 []
 refine GW_seq ?_
 refine GW_region ?_
 refine GL_rd (v := .slice _ _ _) (wn_none rfl) rfl (rd_assign rfl rfl) ?_
 refine GL_nil ?_
 refine GW_seq ?_
 refine GW_region ?_
 refine GL_rd (v := .slice _ _ _) (wn_none rfl) rfl (rd_assign rfl rfl) ?_
 refine GL_nil ?_
 refine GW_seq ?_
 refine GW_seq ?_
 refine GW_region ?_
 refine GL_rd (v := .pointer (some ⟨_, _, none⟩)) (wn_none rfl) rfl (rd_move rfl rfl) ?_
 refine GL_rd (wn_none rfl) rfl (rd_nilCheck rfl rfl) ?_
 refine GL_rd (wn_none rfl) rfl (rd_field rfl rfl fa137_0 _ rfl) ?_
 refine GL_rd (wn_none rfl) rfl (rd_load rfl rfl Try.underlying134 rfl ((cell_of_cells (cells.keep hG.g hp.mod) _).trans rfl)) ?_
 refine GL_call (wn_none rfl) rfl rfl (keys_0 rm cr RA _) rfl ?_
 rintro _ w ⟨ga, rfl, hk⟩
 have hp := hp.comp hk
 refine GL_call (wn_none rfl) rfl rfl (seq_Sorted 92 [.pointer (some ⟨ga, 0, none⟩)] (keysOf RA) (OwnK 134 ga rm cr RA) (keys_It0 ga rm cr RA hO.rok) (fun w w' h hm => ⟨Res.kept h.1 hm (by simp), Res.kept h.2 hm (by simp)⟩) (fun xs h => by rw [keysOf_len h]; omega) _ ⟨hp.get 0 rfl, (hG.keep hp.mod).r⟩) rfl ?_
 rintro vs w ⟨xs, hxs, hk⟩
 have hp := hp.comp hk
 obtain ⟨As, cs, rfl⟩ := row_shape (hp.get 0 rfl)
 have hxl : (sortS xs).length ≤ 65000 := by rw [sortS_lenG, keysOf_len hxs]; exact hRL
 refine GL_rd (wn_none rfl) rfl (rd_len rfl rfl Try.underlying62) ?_
 refine GL_rd (v := .int _ _) (wn_none rfl) rfl (rd_move rfl rfl) ?_
 refine GL_nil ?_
 refine GW_block ?_
 refine GW_loop ?_
 refine Lp_ind (α := Nat × Value × Option Addr) (fun a_0 f_0 w' => match a_0 with | (i, y, As) => ∃ fz, f_0 = (upd (upd (upd (upd (upd fz 0 (.pointer (some ⟨gq, 0, none⟩))) 3 (y)) 11 (.slice As (sortS xs).length cs)) 12 (.int .i64 ((sortS xs).length : Int))) 13 (.int .i64 (i : Int))) ∧ Hp w0 [] w' [.row 59 2 y (((sortS xs).take i)).length ((((sortS xs).take i)).flatMap fun s => rolC s (mk s)), .row 9 1 (.slice As (sortS xs).length cs) ((sortS xs)).length (((sortS xs)).map Value.string)] ∧ (i ≤ (sortS xs).length)) (fun a_0 => match a_0 with | (i, y, As) => (sortS xs).length - i) ?_ (0, .slice none 0 0, As) _ _ ?_
 ·rintro ⟨i, y, As⟩ f wz ⟨fz, rfl, hp, hi0⟩ ihL0
  refine Lp_round ?_
  refine GW_seq ?_
  refine GW_region ?_
  refine GL_rd (wn_none rfl) rfl (rd_bin rfl rfl rfl bo_lss) ?_
  refine GL_nil ?_
  refine GW_seq ?_
  refine GW_cond rfl (fun hb => ?_) (fun hb => ?_)
  ·(try simp only [decide_eq_true_eq, decide_eq_false_iff_not, Bool.not_eq_true', Bool.not_eq_false', Bool.not_eq_eq_eq_not, Bool.not_true, Bool.not_false, Int.not_lt, Int.not_le] at hb)
   obtain ⟨gS, bS, rfl⟩ := (Sl.row (hp.get 1 rfl)).addr (by rw [List.length_map]; omega)
   refine GW_skip ?_
   refine GW_seq ?_
   refine GW_block ?_
   refine GW_seq ?_
   refine GW_region ?_
   refine GL_rd (wn_none rfl) rfl (rd_indexS (j := i) rfl rfl rfl Try.underlying62 ts9 rfl (by omega) _ rfl) ?_
   refine GL_rd (wn_none rfl) rfl (rd_load rfl rfl Try.underlying9 rfl ((Sl.row (hp.get 1 rfl)).get _ _ (strAt_cell (l := (sortS xs)) (i := i) (by omega)))) ?_
   refine GL_rd (v := .string _) (wn_none rfl) rfl (rd_assign rfl rfl) ?_
   refine GL_nil ?_
   have hrl := hO.roleAt hxs (i := i) (by omega)
   refine GW_region ?_
   refine GL_rd (v := y) (wn_none rfl) rfl (rd_move rfl rfl) ?_
   refine GL_rd (v := .pointer (some ⟨_, _, none⟩)) (wn_none rfl) rfl (rd_move rfl rfl) ?_
   refine GL_rd (wn_none rfl) rfl (rd_nilCheck rfl rfl) ?_
   refine GL_rd (wn_none rfl) rfl (rd_field rfl rfl fa137_0 _ rfl) ?_
   refine GL_rd (wn_none rfl) rfl (rd_load rfl rfl Try.underlying134 rfl ((cell_of_cells (cells.keep hG.g hp.mod) _).trans rfl)) ?_
   refine GL_rd (v := .string _) (wn_none rfl) rfl (rd_move rfl rfl) ?_
   refine GL_rd (wn_none rfl) rfl (rd_eq (rd_lookA1 rfl rfl rfl Try.underlying134 Try.underlying9 tz59 (hG.keep hp.mod).r) hrl) ?_
   refine GL_lit1 (L := (rolC (strAt (sortS xs) i) (mk (strAt (sortS xs) i)))) (wn_none rfl) rfl rfl rfl rfl Try.underlying56 ts59 tz59 (by kernel_rfl) rfl hp ?_
   intro g w hp
   refine GL_append (i := 1) (wn_none rfl) rfl rfl rfl rfl Try.underlying56 ti59 rfl (by decide) hp rfl (Sl.row (hp.get 0 rfl)) (oneC rfl (one1 rfl)) (by rw [List.length_take]; omega) (by rw [List.length_take]; omega) ?_
   intro v w hp
   rw [rolR_snoc mk (by omega)] at hp
   refine GL_rd (v := v) (wn_none rfl) rfl (rd_assign rfl rfl) ?_
   refine GL_nil ?_
   refine GW_region ?_
   refine GL_rd (wn_none rfl) rfl (rd_bin rfl rfl rfl (bo_add64 (by omega))) ?_
   refine GL_rd (v := .int _ _) (wn_none rfl) rfl (rd_move rfl rfl) ?_
   refine GL_nil ?_
   have hp := (((hp.front 2 rfl).front 2 rfl).take 2)
   exact ihL0 (i + 1, v, _) _ _ (by simp only []; omega) ⟨_, slots5 rfl rfl rfl rfl rfl, hp, by omega⟩
  ·(try simp only [decide_eq_true_eq, decide_eq_false_iff_not, Bool.not_eq_true', Bool.not_eq_false', Bool.not_eq_eq_eq_not, Bool.not_true, Bool.not_false, Int.not_lt, Int.not_le] at hb)
   obtain rfl : i = (sortS xs).length := by omega
   rw [List.take_length] at hp
   refine GW_exit ?_
   refine GW_seq ?_
   refine GW_region ?_
   refine GL_rd (v := y) (wn_none rfl) rfl (rd_move rfl rfl) ?_
   refine GL_rd (v := y) (wn_none rfl) rfl (rd_assign rfl rfl) ?_
   refine GL_nil ?_
   refine GW_ret ?_
   have hp := ((hp.front 0 rfl).take 1)
   exact ⟨_, res1 Try.results24 (rv_tmp (v := y) rfl rfl), _, hxs, hp⟩
 ·have hp := ((hp.front 0 rfl).take 1)
  have hp := hp.nilRow 59 2
  refine ⟨_, slots5 rfl rfl rfl rfl rfl, hp, Nat.zero_le _⟩
end Go.Proofs.Ytpagpmioopaciaa
