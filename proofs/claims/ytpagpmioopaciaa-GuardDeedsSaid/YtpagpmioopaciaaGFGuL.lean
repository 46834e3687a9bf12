/- Walks of functions of the program. -/
import Derived.Test.YtpagpmioopaciaaGFGuM
import Derived.Test.YtpagpmioopaciaaGFGuT
import Derived.Test.YtpagpmioopaciaaGFGuG
import Derived.Test.YtpagpmioopaciaaGGuaQ
import Derived.Test.YtpagpmioopaciaaGReqS
import Derived.Test.YtpagpmioopaciaaGHisW
set_option linter.unusedVariables false
set_option linter.unusedSimpArgs false
namespace Go.Proofs.Ytpagpmioopaciaa
open Go.Mo Go.RowKit
theorem gu_DefineX (gq rm pm cr cp : Nat) (RA PA : AL) (mk : MK) (ct : CT) (R : List RO) (L : List HA) (nm : ByteArray) (ov : Value) (ops : List Int) (hz : nm.size ≤ 65000) (F0 : List Nat) (w0 : World) (hp0 : Hp w0 F0 w0 [cells gq 137 [.map (some rm), .map (some pm)], .blk rm (.map ⟨alE RA⟩ cr), .blk pm (.map ⟨alE PA⟩ cp), packL (rowsG 9 PA ct)]) (hO : GuOk RA cr mk PA cp ct) (hG : GuRel RA mk PA ct R L) : Does Try.prog 50 #[.pointer (some ⟨gq, 0, none⟩), .agg ⟨rolC nm (ofBt ops)⟩] w0 fun v w' => v = .int .i64 (defK R nm) ∧ ∃ RA' cr' mk', GuOk RA' cr' mk' PA cp ct ∧ GuRel RA' mk' PA ct (defX R (nm, ov, ops)) L ∧ Hp w0 F0 w' [cells gq 137 [.map (some rm), .map (some pm)], .blk rm (.map ⟨alE RA'⟩ cr'), .blk pm (.map ⟨alE PA⟩ cp), packL (rowsG 9 PA ct)] := by
  refine (gu_Define gq rm pm cr cp RA PA mk ct nm (ofBt ops) hz F0 w0 hp0 hO).mono ?_
  rintro v w' ⟨rfl, hp⟩
  rw [hG.defC_eq hO] at hp ⊢
  refine ⟨rfl, ?_⟩
  by_cases h0 : defK R nm = 0
  · simp only [if_pos h0] at hp
    exact ⟨_, _, _, hO.define nm _, by rw [defX, if_pos h0]; exact hG.define nm ov ops _, hp⟩
  · simp only [if_neg h0] at hp
    exact ⟨_, _, _, hO, by rw [defX, if_neg h0]; exact hG, hp⟩
theorem gu_GrantX (gq rm pm cr cp : Nat) (RA PA : AL) (mk : MK) (ct : CT) (R : List RO) (L : List HA) (who role : ByteArray) (hz : who.size ≤ 65000) (hct : (ct who).length ≤ 65000) (F0 : List Nat) (w0 : World) (hp0 : Hp w0 F0 w0 [cells gq 137 [.map (some rm), .map (some pm)], .blk rm (.map ⟨alE RA⟩ cr), .blk pm (.map ⟨alE PA⟩ cp), packL (rowsG 9 PA ct)]) (hO : GuOk RA cr mk PA cp ct) (hG : GuRel RA mk PA ct R L) : Does Try.prog 51 #[.pointer (some ⟨gq, 0, none⟩), .string who, .string role] w0 fun v w' => v = .int .i64 (graK R L who role) ∧ ∃ PA' cp' ct', GuOk RA cr mk PA' cp' ct' ∧ GuRel RA mk PA' ct' R (graX R L who role) ∧ Hp w0 F0 w' [cells gq 137 [.map (some rm), .map (some pm)], .blk rm (.map ⟨alE RA⟩ cr), .blk pm (.map ⟨alE PA'⟩ cp'), packL (rowsG 9 PA' ct')] := by
  refine (gu_Grant gq rm pm cr cp RA PA mk ct who role hz hct F0 w0 hp0 hO).mono ?_
  rintro v w' ⟨rfl, hp⟩
  rw [hG.graC_eq hO] at hp ⊢
  refine ⟨rfl, ?_⟩
  by_cases h0 : graK R L who role = 0
  · rw [if_pos h0] at hp
    obtain ⟨pv, hp⟩ := hp
    obtain ⟨h1, h2⟩ := gra_ok h0
    exact ⟨_, _, _, hO.grant who pv _, by rw [graX, if_pos h0]; exact hG.grant who role pv h1 (fun q => h2 ((hG.hno who role).1 q)), hp⟩
  · rw [if_neg h0] at hp
    exact ⟨_, _, _, hO, by rw [graX, if_neg h0]; exact hG, hp⟩
theorem gu_RevokeX (gq rm pm cr cp : Nat) (RA PA : AL) (mk : MK) (ct : CT) (R : List RO) (L : List HA) (who role : ByteArray) (hct : (ct who).length ≤ 65000) (F0 : List Nat) (w0 : World) (hp0 : Hp w0 F0 w0 [cells gq 137 [.map (some rm), .map (some pm)], .blk rm (.map ⟨alE RA⟩ cr), .blk pm (.map ⟨alE PA⟩ cp), packL (rowsG 9 PA ct)]) (hO : GuOk RA cr mk PA cp ct) (hG : GuRel RA mk PA ct R L) : Does Try.prog 54 #[.pointer (some ⟨gq, 0, none⟩), .string who, .string role] w0 fun v w' => v = .int .i64 (revK L who role) ∧ ∃ PA' cp' ct', GuOk RA cr mk PA' cp' ct' ∧ GuRel RA mk PA' ct' R (revX L who role) ∧ Hp w0 F0 w' [cells gq 137 [.map (some rm), .map (some pm)], .blk rm (.map ⟨alE RA⟩ cr), .blk pm (.map ⟨alE PA'⟩ cp'), packL (rowsG 9 PA' ct')] := by
  refine (gu_Revoke gq rm pm cr cp RA PA mk ct who role hct F0 w0 hp0 hO).mono ?_
  rintro v w' (⟨hin, rfl, hp⟩ | ⟨i, PA', cp', hi, he, hno, rfl, hO', hN, hp⟩)
  · have h1 : haF L who role < 0 := Int.not_le.1 fun q => hin ((hG.hno who role).2 q)
    exact ⟨by rw [revK, if_pos h1], _, _, _, hO, by rw [revX, if_pos h1]; exact hG, hp⟩
  · have hm : role ∈ ct who := by rw [← he]; exact List.mem_of_getElem? (strAt_some hi)
    obtain ⟨k, hk, hke, hka, _⟩ := haF_ge ((hG.ctm who role).1 hm)
    have h1 : ¬ haF L who role < 0 := by omega
    exact ⟨by rw [revK, if_neg h1], _, _, _, hO', by rw [revX, if_neg h1, hke, Int.toNat_natCast]; exact hG.revoke hi he hno hk hka hN, hp⟩
theorem law_glight (sv : Value) (l : List OpR) (w0 : World) (hl : Sl w0 sv 4 l.length (l.flatMap goC)) (hlo : okG w0 l) : Does Try.prog 20 #[sv] w0 fun v w' => ∃ b : Bool, v = .bool b ∧ (b = true → lightO l) ∧ Hp w0 [] w' [] := by
 obtain ⟨A, c, rfl⟩ := sl_shape hl
 have hlle := hl.le
 refine does_of (l := [.slice A l.length c]) Try.func20 (by kernel_rfl) rfl Try.ntmps20 rfl rfl (by kernel_rfl) ?_
 have hp := Hp.refl w0 []
 refine GW_seq ?_
 refine GW_region ?_
 refine GL_rd (v := .bool _) (wn_none rfl) rfl (rd_assign rfl rfl) ?_
 refine GL_nil ?_
 refine GW_seq ?_
 refine GW_seq ?_
 refine GW_region ?_
 refine GL_rd (v := .slice _ _ _) (wn_none rfl) rfl (rd_move rfl rfl) ?_
 refine GL_rd (wn_none rfl) rfl (rd_len rfl rfl Try.underlying45) ?_
 refine GL_rd (wn_none rfl) rfl (rd_bin rfl rfl rfl bo_gtr) ?_
 refine GL_nil ?_
 refine GW_cond rfl (fun hb => ?_) (fun hb => ?_)
 ·(try simp only [decide_eq_true_eq, decide_eq_false_iff_not, Bool.not_eq_true', Bool.not_eq_false', Bool.not_eq_eq_eq_not, Bool.not_true, Bool.not_false, Int.not_lt, Int.not_le] at hb)
  refine GW_seq ?_
  refine GW_region ?_
  refine GL_rd (v := .bool _) (wn_none rfl) rfl (rd_assign rfl rfl) ?_
  refine GL_nil ?_
  refine GW_ret ?_
  exact ⟨_, res1 Try.results20 (rv_tmp (v := .bool _) rfl rfl), false, rfl, fun q => (by cases q), hp.mods⟩
 ·(try simp only [decide_eq_true_eq, decide_eq_false_iff_not, Bool.not_eq_true', Bool.not_eq_false', Bool.not_eq_eq_eq_not, Bool.not_true, Bool.not_false, Int.not_lt, Int.not_le] at hb)
  refine GW_skip ?_
  refine GW_seq ?_
  refine GW_seq ?_
  refine GW_region ?_
  refine GL_rd (v := .int _ _) (wn_none rfl) rfl (rd_assign rfl rfl) ?_
  refine GL_nil ?_
  refine GW_block ?_
  refine GW_loop ?_
  refine Lp_ind (α := Nat) (fun a_0 f_0 w' => match a_0 with | i => ∃ fz, f_0 = (upd (upd fz 3 (.int .i64 (i : Int))) 0 (.slice A l.length c)) ∧ Hp w0 [] w' [] ∧ (i ≤ l.length) ∧ (∀ j, j < i → (goAt l j).who.size ≤ 100 ∧ (goAt l j).role.size ≤ 100 ∧ (goAt l j).ops.length ≤ 30)) (fun a_0 => match a_0 with | i => l.length - i) ?_ 0 _ _ ?_
  ·rintro i f wz ⟨fz, rfl, hp, hi0, hok⟩ ihL0
   refine Lp_round ?_
   refine GW_seq ?_
   refine GW_seq ?_
   refine GW_region ?_
   refine GL_rd (v := .int _ _) (wn_none rfl) rfl (rd_move rfl rfl) ?_
   refine GL_rd (v := .slice _ _ _) (wn_none rfl) rfl (rd_move rfl rfl) ?_
   refine GL_rd (wn_none rfl) rfl (rd_len rfl rfl Try.underlying45) ?_
   refine GL_rd (wn_none rfl) rfl (rd_bin rfl rfl rfl bo_lss) ?_
   refine GL_nil ?_
   refine GW_cond rfl (fun hb2 => ?_) (fun hb2 => ?_)
   ·(try simp only [decide_eq_true_eq, decide_eq_false_iff_not, Bool.not_eq_true', Bool.not_eq_false', Bool.not_eq_eq_eq_not, Bool.not_true, Bool.not_false, Int.not_lt, Int.not_le] at hb2)
    obtain ⟨gA, bA, rfl⟩ := hl.addr (by rw [flat_length goC_len]; omega)
    obtain ⟨Ao, co, hoe⟩ := sl_shape (hlo _ (goAt_mem (i := i) (by omega)))
    refine GW_skip ?_
    refine GW_seq ?_
    refine GW_block ?_
    refine GW_seq ?_
    refine GW_region ?_
    refine GL_rd (v := .slice _ _ _) (wn_none rfl) rfl (rd_move rfl rfl) ?_
    refine GL_rd (v := .int _ _) (wn_none rfl) rfl (rd_move rfl rfl) ?_
    refine GL_rd (wn_none rfl) rfl (rd_indexS (j := i) rfl rfl rfl Try.underlying45 ts123 rfl (by omega) _ rfl) ?_
    refine GL_rd (wn_none rfl) rfl (rd_field rfl rfl fa123_1 _ rfl) ?_
    refine GL_rd (wn_none rfl) rfl (rd_load rfl rfl Try.underlying9 rfl (Sl.goE (hl.keep hp.mod) i (by first | omega | assumption | exact Nat.lt_succ_self _) (go_who _))) ?_
    refine GL_rd (wn_none rfl) rfl (rd_lenS rfl rfl Try.underlying9) ?_
    refine GL_rd (wn_none rfl) rfl (rd_bin rfl rfl rfl bo_gtr) ?_
    refine GL_rd (v := .bool _) (wn_none rfl) rfl (rd_move rfl rfl) ?_
    refine GL_split (t := 20) (b := _) rfl ?_ ?_
    ·intro hb3; (try simp only [decide_eq_true_eq, decide_eq_false_iff_not, Bool.not_eq_true', Bool.not_eq_false', Bool.not_eq_eq_eq_not, Bool.not_true, Bool.not_false, Int.not_lt, Int.not_le] at hb3)
     refine GL_pass (nw_off rfl rfl rfl rfl rfl) rfl ?_
     refine GL_pass (nw_off rfl rfl rfl rfl rfl) rfl ?_
     refine GL_pass (nw_off rfl rfl rfl rfl rfl) rfl ?_
     refine GL_pass (nw_off rfl rfl rfl rfl rfl) rfl ?_
     refine GL_pass (nw_off rfl rfl rfl rfl rfl) rfl ?_
     refine GL_pass (nw_off rfl rfl rfl rfl rfl) rfl ?_
     refine GL_pass (nw_off rfl rfl rfl rfl rfl) rfl ?_
     refine GL_rd (v := .bool _) (wn_none rfl) rfl (rd_pickT rfl rfl rfl) ?_
     refine GL_rd (v := .bool _) (wn_none rfl) rfl (rd_move rfl rfl) ?_
     refine GL_pass (nw_off rfl rfl rfl rfl rfl) rfl ?_
     refine GL_pass (nw_off rfl rfl rfl rfl rfl) rfl ?_
     refine GL_pass (nw_off rfl rfl rfl rfl rfl) rfl ?_
     refine GL_pass (nw_off rfl rfl rfl rfl rfl) rfl ?_
     refine GL_pass (nw_off rfl rfl rfl rfl rfl) rfl ?_
     refine GL_pass (nw_off rfl rfl rfl rfl rfl) rfl ?_
     refine GL_pass (nw_off rfl rfl rfl rfl rfl) rfl ?_
     refine GL_rd (v := .bool _) (wn_none rfl) rfl (rd_pickT rfl rfl rfl) ?_
     refine GL_nil ?_
     refine GW_true rfl ?_
     refine GW_seq ?_
     refine GW_region ?_
     refine GL_rd (v := .bool _) (wn_none rfl) rfl (rd_assign rfl rfl) ?_
     refine GL_nil ?_
     refine GW_ret ?_
     exact ⟨_, res1 Try.results20 (rv_tmp (v := .bool _) rfl rfl), false, rfl, fun q => (by cases q), hp.mods⟩
    ·intro hb3; (try simp only [decide_eq_true_eq, decide_eq_false_iff_not, Bool.not_eq_true', Bool.not_eq_false', Bool.not_eq_eq_eq_not, Bool.not_true, Bool.not_false, Int.not_lt, Int.not_le] at hb3)
     have h1 := hb3
     refine GL_rd (v := .slice _ _ _) (wn_on rfl rfl rfl rfl) rfl (rd_move rfl rfl) ?_
     refine GL_rd (v := .int _ _) (wn_on rfl rfl rfl rfl) rfl (rd_move rfl rfl) ?_
     refine GL_rd (wn_on rfl rfl rfl rfl) rfl (rd_indexS (j := i) rfl rfl rfl Try.underlying45 ts123 rfl (by omega) _ rfl) ?_
     refine GL_rd (wn_on rfl rfl rfl rfl) rfl (rd_field rfl rfl fa123_2 _ rfl) ?_
     refine GL_rd (wn_on rfl rfl rfl rfl) rfl (rd_load rfl rfl Try.underlying9 rfl (Sl.goE (hl.keep hp.mod) i (by first | omega | assumption | exact Nat.lt_succ_self _) (go_role _))) ?_
     refine GL_rd (wn_on rfl rfl rfl rfl) rfl (rd_lenS rfl rfl Try.underlying9) ?_
     refine GL_rd (wn_on rfl rfl rfl rfl) rfl (rd_bin rfl rfl rfl bo_gtr) ?_
     refine GL_rd (v := .bool _) (wn_none rfl) rfl (rd_pickF rfl rfl rfl) ?_
     refine GL_rd (v := .bool _) (wn_none rfl) rfl (rd_move rfl rfl) ?_
     refine GL_split (t := 29) (b := _) rfl ?_ ?_
     ·intro hb4; (try simp only [decide_eq_true_eq, decide_eq_false_iff_not, Bool.not_eq_true', Bool.not_eq_false', Bool.not_eq_eq_eq_not, Bool.not_true, Bool.not_false, Int.not_lt, Int.not_le] at hb4)
      refine GL_pass (nw_off rfl rfl rfl rfl rfl) rfl ?_
      refine GL_pass (nw_off rfl rfl rfl rfl rfl) rfl ?_
      refine GL_pass (nw_off rfl rfl rfl rfl rfl) rfl ?_
      refine GL_pass (nw_off rfl rfl rfl rfl rfl) rfl ?_
      refine GL_pass (nw_off rfl rfl rfl rfl rfl) rfl ?_
      refine GL_pass (nw_off rfl rfl rfl rfl rfl) rfl ?_
      refine GL_pass (nw_off rfl rfl rfl rfl rfl) rfl ?_
      refine GL_rd (v := .bool _) (wn_none rfl) rfl (rd_pickT rfl rfl rfl) ?_
      refine GL_nil ?_
      refine GW_true rfl ?_
      refine GW_seq ?_
      refine GW_region ?_
      refine GL_rd (v := .bool _) (wn_none rfl) rfl (rd_assign rfl rfl) ?_
      refine GL_nil ?_
      refine GW_ret ?_
      exact ⟨_, res1 Try.results20 (rv_tmp (v := .bool _) rfl rfl), false, rfl, fun q => (by cases q), hp.mods⟩
     ·intro hb4; (try simp only [decide_eq_true_eq, decide_eq_false_iff_not, Bool.not_eq_true', Bool.not_eq_false', Bool.not_eq_eq_eq_not, Bool.not_true, Bool.not_false, Int.not_lt, Int.not_le] at hb4)
      have h2 := hb4
      refine GL_rd (v := .slice _ _ _) (wn_on rfl rfl rfl rfl) rfl (rd_move rfl rfl) ?_
      refine GL_rd (v := .int _ _) (wn_on rfl rfl rfl rfl) rfl (rd_move rfl rfl) ?_
      refine GL_rd (wn_on rfl rfl rfl rfl) rfl (rd_indexS (j := i) rfl rfl rfl Try.underlying45 ts123 rfl (by omega) _ rfl) ?_
      refine GL_rd (wn_on rfl rfl rfl rfl) rfl (rd_field rfl rfl fa123_3 _ rfl) ?_
      refine GL_rd (v := .slice _ _ _) (wn_on rfl rfl rfl rfl) rfl (rd_load rfl rfl Try.underlying36 rfl (Sl.goE (hl.keep hp.mod) i (by omega) ((go_ov _).trans (congrArg some hoe)))) ?_
      refine GL_rd (wn_on rfl rfl rfl rfl) rfl (rd_len rfl rfl Try.underlying36) ?_
      refine GL_rd (wn_on rfl rfl rfl rfl) rfl (rd_bin rfl rfl rfl bo_gtr) ?_
      refine GL_rd (v := .bool _) (wn_none rfl) rfl (rd_pickF rfl rfl rfl) ?_
      refine GL_nil ?_
      refine GW_cond rfl (fun hb5 => ?_) (fun hb5 => ?_)
      ·(try simp only [decide_eq_true_eq, decide_eq_false_iff_not, Bool.not_eq_true', Bool.not_eq_false', Bool.not_eq_eq_eq_not, Bool.not_true, Bool.not_false, Int.not_lt, Int.not_le] at hb5)
       refine GW_seq ?_
       refine GW_region ?_
       refine GL_rd (v := .bool _) (wn_none rfl) rfl (rd_assign rfl rfl) ?_
       refine GL_nil ?_
       refine GW_ret ?_
       exact ⟨_, res1 Try.results20 (rv_tmp (v := .bool _) rfl rfl), false, rfl, fun q => (by cases q), hp.mods⟩
      ·(try simp only [decide_eq_true_eq, decide_eq_false_iff_not, Bool.not_eq_true', Bool.not_eq_false', Bool.not_eq_eq_eq_not, Bool.not_true, Bool.not_false, Int.not_lt, Int.not_le] at hb5)
       refine GW_skip ?_
       refine GW_region ?_
       refine GL_rd (v := .int _ _) (wn_none rfl) rfl (rd_move rfl rfl) ?_
       refine GL_rd (wn_none rfl) rfl (rd_bin rfl rfl rfl (bo_add64 (by omega))) ?_
       refine GL_rd (v := .int _ _) (wn_none rfl) rfl (rd_assign rfl rfl) ?_
       refine GL_nil ?_
       exact ihL0 (i + 1) _ _ (by simp only []; omega) ⟨_, slots2 rfl rfl, hp, by omega, fun j hj => by rcases Nat.lt_succ_iff_lt_or_eq.1 hj with h | h; exact hok j h; subst h; omega⟩
   ·(try simp only [decide_eq_true_eq, decide_eq_false_iff_not, Bool.not_eq_true', Bool.not_eq_false', Bool.not_eq_eq_eq_not, Bool.not_true, Bool.not_false, Int.not_lt, Int.not_le] at hb2)
    refine GW_exit ?_
    refine GW_seq ?_
    refine GW_region ?_
    refine GL_rd (v := .bool _) (wn_none rfl) rfl (rd_assign rfl rfl) ?_
    refine GL_nil ?_
    refine GW_ret ?_
    exact ⟨_, res1 Try.results20 (rv_tmp (v := .bool _) rfl rfl), true, rfl, fun _ => ⟨by omega, gos_all fun j hj => hok j (by omega)⟩, hp⟩
  ·refine ⟨_, slots2 rfl rfl, hp, Nat.zero_le _, fun j hj => absurd hj (by omega)⟩
set_option maxHeartbeats 4000000 in
theorem law_made (sv : Value) (l : List OpR) (w0 : World) (hl : Sl w0 sv 4 l.length (l.flatMap goC)) (hlo : okG w0 l) (hb0 : lightO l) : Does Try.prog 21 #[sv] w0 fun v w' => ∃ gq rm pm cr cp RA PA mk ct rv lv R L, v = .tuple #[.pointer (some ⟨gq, 0, none⟩), .agg ⟨[rv, lv]⟩, .bool true] ∧ GuOk RA cr mk PA cp ct ∧ GuRel RA mk PA ct R L ∧ (∀ wz, okG wz l → okRo wz R) ∧ R.length ≤ 120 ∧ L.length ≤ 120 ∧ Hp w0 [] w' [cells gq 137 [.map (some rm), .map (some pm)], .blk rm (.map ⟨alE RA⟩ cr), .blk pm (.map ⟨alE PA⟩ cp), packL (rowsG 9 PA ct), .row 61 2 rv (R).length ((R).flatMap roC), .row 128 2 lv (L).length ((L).flatMap haC)] := by
 obtain ⟨A, c, rfl⟩ := sl_shape hl
 have hlle := hl.le
 have hl120 := hb0.1
 refine does_of (l := [.slice A l.length c]) Try.func21 (by kernel_rfl) rfl Try.ntmps21 rfl rfl (by kernel_rfl) ?_
 have hp := Hp.refl w0 []
 refine GW_seq ?_
 refine GW_region ?_
 refine GL_rd (v := _) (wn_none rfl) rfl (rd_assign rfl rfl) ?_
 refine GL_alloc (wn_none rfl) rfl rfl tz51 rfl hp ?_
 intro g w hp
 refine GL_rd (v := .bool _) (wn_none rfl) rfl (rd_assign rfl rfl) ?_
 refine GL_nil ?_
 refine GW_seq ?_
 refine GW_region ?_
 refine GL_call (wn_none rfl) rfl rfl (gu_New _) rfl ?_
 rintro _ w ⟨gq, rm, pm, rfl, hk⟩
 have hp := hp.comp hk
 refine GL_rd (v := .pointer (some ⟨gq, 0, none⟩)) (wn_none rfl) rfl (rd_assign rfl rfl) ?_
 refine GL_nil ?_
 refine GW_seq ?_
 refine GW_region ?_
 refine GL_rd (wn_none rfl) rfl (rd_buildS (L := [.slice none 0 0, .slice none 0 0]) rfl tz51 pl51 (by kernel_rfl)) ?_
 refine GL_alloc (wn_none rfl) rfl rfl tz51 rfl hp ?_
 intro g2 w hp
 refine GL_store (i := 0) (wn_none rfl) rfl rfl rfl rfl ts51 rfl rfl (oneC rfl (oneC rfl one0)) hp rfl (by first | exact Nat.le_of_ble_eq_true rfl | simp [bys_length, *]) rfl ?_
 intro w hp
 refine GL_nil ?_
 refine GW_seq ?_
 refine GW_seq ?_
 refine GW_region ?_
 refine GL_rd (v := .pointer (some ⟨gq, 0, none⟩)) (wn_none rfl) rfl (rd_move rfl rfl) ?_
 refine GL_rd (wn_none rfl) rfl (rd_bin rfl rfl rfl (bo_pnil Try.underlying47)) ?_
 refine GL_nil ?_
 refine GW_false rfl ?_
 refine GW_skip ?_
 refine GW_seq ?_
 refine GW_seq ?_
 refine GW_region ?_
 refine GL_rd (v := .int _ _) (wn_none rfl) rfl (rd_assign rfl rfl) ?_
 refine GL_nil ?_
 refine GW_block ?_
 refine GW_loop ?_
 refine Lp_ind (α := Nat × AL × Nat × MK × AL × Nat × CT × Value × Value × List RO × List HA) (fun a_0 f_0 w' => match a_0 with | (i, RA, cr, mk, PA, cp, ct, rv, lv, R, L) => ∃ fz, f_0 = (upd (upd (upd (upd (upd fz 7 (.int .i64 (i : Int))) 0 (.slice A l.length c)) 3 (.pointer (some ⟨g, 0, none⟩))) 5 (.pointer (some ⟨gq, 0, none⟩))) 6 (.pointer (some ⟨g2, 0, none⟩))) ∧ Hp w0 [] w' [cells gq 137 [.map (some rm), .map (some pm)], .blk rm (.map ⟨alE RA⟩ cr), .blk pm (.map ⟨alE PA⟩ cp), packL (rowsG 9 PA ct), cells g 51 [.slice none 0 0, .slice none 0 0], cells g2 51 [rv, lv], .row 61 2 rv (R).length ((R).flatMap roC), .row 128 2 lv (L).length ((L).flatMap haC)] ∧ (i ≤ l.length) ∧ (GuOk RA cr mk PA cp ct) ∧ (GuRel RA mk PA ct R L) ∧ (∀ wz, okG wz l → okRo wz R) ∧ (R.length ≤ i) ∧ (L.length ≤ i)) (fun a_0 => match a_0 with | (i, RA, cr, mk, PA, cp, ct, rv, lv, R, L) => l.length - i) ?_ (0, [], 0, fun _ => 0#32, [], 0, fun _ => [], .slice none 0 0, .slice none 0 0, [], []) _ _ ?_
 ·rintro ⟨i, RA, cr, mk, PA, cp, ct, rv, lv, R, L⟩ f wz ⟨fz, rfl, hp, hi0, hO, hG, hRo, hRl, hLl⟩ ihL0
  refine Lp_round ?_
  refine GW_seq ?_
  refine GW_seq ?_
  refine GW_region ?_
  refine GL_rd (v := .int .i64 (i : Int)) (wn_none rfl) rfl (rd_move rfl rfl) ?_
  refine GL_rd (v := .slice _ _ _) (wn_none rfl) rfl (rd_move rfl rfl) ?_
  refine GL_rd (wn_none rfl) rfl (rd_len rfl rfl Try.underlying45) ?_
  refine GL_rd (wn_none rfl) rfl (rd_bin rfl rfl rfl bo_lss) ?_
  refine GL_nil ?_
  refine GW_cond rfl (fun hb => ?_) (fun hb => ?_)
  ·(try simp only [decide_eq_true_eq, decide_eq_false_iff_not, Bool.not_eq_true', Bool.not_eq_false', Bool.not_eq_eq_eq_not, Bool.not_true, Bool.not_false, Int.not_lt, Int.not_le] at hb)
   obtain ⟨gA, bA, rfl⟩ := hl.addr (by rw [flat_length goC_len]; omega)
   obtain ⟨AL, cL, rfl⟩ := row_shape (hp.get 7 rfl)
   obtain ⟨AR, cR, rfl⟩ := row_shape (hp.get 6 rfl)
   refine GW_skip ?_
   refine GW_seq ?_
   refine GW_block ?_
   refine GW_seq ?_
   refine GW_region ?_
   refine GL_rd (v := .int _ _) (wn_none rfl) rfl (rd_assign rfl rfl) ?_
   refine GL_rd (v := .int _ _) (wn_none rfl) rfl (rd_assign rfl rfl) ?_
   refine GL_nil ?_
   refine GW_seq ?_
   refine GW_seq ?_
   refine GW_region ?_
   refine GL_rd (v := .slice _ _ _) (wn_none rfl) rfl (rd_move rfl rfl) ?_
   refine GL_rd (v := .int .i64 (i : Int)) (wn_none rfl) rfl (rd_move rfl rfl) ?_
   refine GL_rd (wn_none rfl) rfl (rd_indexS (j := i) rfl rfl rfl Try.underlying45 ts123 rfl (by omega) _ rfl) ?_
   refine GL_rd (wn_none rfl) rfl (rd_field rfl rfl fa123_0 _ rfl) ?_
   refine GL_rd (wn_none rfl) rfl (rd_load rfl rfl Try.underlying3 rfl (Sl.goE (hl.keep hp.mod) i (by first | omega | assumption | exact Nat.lt_succ_self _) (go_kind _))) ?_
   refine GL_nil ?_
   refine GW_block ?_
   refine GW_seq ?_
   refine GW_seq ?_
   refine GW_region ?_
   refine GL_rd (wn_none rfl) rfl (rd_bin rfl rfl rfl bo_eql) ?_
   refine GL_rd (v := .bool _) (wn_none rfl) rfl (rd_assign rfl rfl) ?_
   refine GL_nil ?_
   refine GW_cond rfl (fun hb2 => ?_) (fun hb2 => ?_)
   ·(try simp only [decide_eq_true_eq, decide_eq_false_iff_not, Bool.not_eq_true', Bool.not_eq_false', Bool.not_eq_eq_eq_not, Bool.not_true, Bool.not_false, Int.not_lt, Int.not_le] at hb2)
    refine GW_skip ?_
    refine GW_cond rfl (fun hb3 => ?_) (fun hb3 => ?_)
    ·(try simp only [decide_eq_true_eq, decide_eq_false_iff_not, Bool.not_eq_true', Bool.not_eq_false', Bool.not_eq_eq_eq_not, Bool.not_true, Bool.not_false, Int.not_lt, Int.not_le] at hb3)
     refine GW_seq ?_
     have hov2 := (hlo _ (goAt_mem (i := i) (by omega)))
     obtain ⟨Ao, co, hoe⟩ := sl_shape hov2
     rw [hoe] at hov2
     refine GW_drawnK 16 (.one 0 true (.one 1 true (.one 2 true (.one 3 true (.one 4 true (.one 5 true (.one 6 true (.one 7 true (.one 8 true (.one 9 true (.one 10 true (.one 11 true (.one 12 false (.one 13 true (.one 14 true (.one 15 true (.one 16 false (.one 17 false .nil)))))))))))))))))) mixed (by kernel_rfl) hp (fun _ h => (h.sub (.cons_cons _ (.cons_cons _ (.cons_cons _ (.cons_cons _ (.cons_cons _ (.cons_cons _ (.cons _ (.cons_cons _ .slnil)))))))))) fun w hp => ?_
     have hpS := (hp.sub (.cons_cons _ (.cons_cons _ (.cons_cons _ (.cons_cons _ (.cons_cons _ (.cons_cons _ (.cons _ (.cons_cons _ .slnil)))))))))
     refine GO_rd rfl rfl (wn_none rfl) rfl hpS (fun w hp => (rd_loadC rfl rfl Try.underlying51 rfl ts51 (hp.get 5 rfl) (by first | (rw [bys_length]; first | exact a32_len _) | rfl | simp [bys_length, *]))) ?_
     refine GO_rdT (v := .slice _ _ _) rfl (wn_none rfl) rfl (fun w => (rd_move rfl rfl)) ?_
     refine GO_rdT (v := .int .i64 (i : Int)) rfl (wn_none rfl) rfl (fun w => (rd_move rfl rfl)) ?_
     refine GO_rdT rfl (wn_none rfl) rfl (fun w => (rd_indexS (j := i) rfl rfl rfl Try.underlying45 ts123 rfl (by omega) _ rfl)) ?_
     refine GO_rdT rfl (wn_none rfl) rfl (fun w => (rd_field rfl rfl fa123_2 _ rfl)) ?_
     refine GO_rd rfl rfl (wn_none rfl) rfl hpS (fun w hp => (rd_load rfl rfl Try.underlying9 rfl (Sl.goE (hl.keep hp.mod) i (by first | omega | assumption | exact Nat.lt_succ_self _) (go_role _)))) ?_
     refine GO_rdT (v := .slice _ _ _) rfl (wn_none rfl) rfl (fun w => (rd_move rfl rfl)) ?_
     refine GO_rdT (v := .int .i64 (i : Int)) rfl (wn_none rfl) rfl (fun w => (rd_move rfl rfl)) ?_
     refine GO_rdT rfl (wn_none rfl) rfl (fun w => (rd_indexS (j := i) rfl rfl rfl Try.underlying45 ts123 rfl (by omega) _ rfl)) ?_
     refine GO_rdT rfl (wn_none rfl) rfl (fun w => (rd_field rfl rfl fa123_3 _ rfl)) ?_
     refine GO_rd (v := .slice _ _ _) rfl rfl (wn_none rfl) rfl hpS (fun w hp => (rd_load rfl rfl Try.underlying36 rfl (Sl.goE (hl.keep hp.mod) i (by omega) ((go_ov _).trans (congrArg some hoe))))) ?_
     refine GO_rd rfl rfl (wn_none rfl) rfl hpS (fun w hp => (rd_buildS (L := (roC ((goAt l i).role, (.slice Ao (goAt l i).ops.length co), (goAt l i).ops))) rfl tz61 pl61 (by kernel_rfl))) ?_
     refine GO_of_GL rfl ?_
     refine GL_call (wn_none rfl) rfl rfl (ref_gDefine _ _ R L (goAt l i).role (.slice Ao (goAt l i).ops.length co) (goAt l i).ops _ (Sl.row (hp.get 6 rfl)) (Sl.row (hp.get 7 rfl)) hG.srt (fun x hx => (hRo w0 hlo x hx).keep hp.mod) (hov2.keep hp.mod) (by have h1 := (hb0.2 _ (goAt_mem (i := i) (by omega))); omega) (by omega)) rfl ?_
     rintro _ w ⟨rv2, rfl, hk⟩
     have hp := hp.renew 6 rfl hk
     obtain ⟨Arv2, crv2, rfl⟩ := row_shape (hp.get 6 rfl)
     have hpS2 := (hp.sub (.cons_cons _ (.cons_cons _ (.cons_cons _ (.cons_cons _ (.cons_cons _ (.cons_cons _ (.cons _ (.cons_cons _ .slnil)))))))))
     refine GL_nil ⟨fun _ => hpS2, ?_⟩
     refine GO_rdT (v := .tuple _) rfl (wn_none rfl) rfl (fun w => (rd_move rfl rfl)) ?_
     refine GO_rdT (v := .agg ⟨_⟩) rfl (wn_none rfl) rfl (fun w => (rd_extract rfl rfl rfl)) ?_
     refine GO_rdT (v := .int .i64 (defK R (goAt l i).role)) rfl (wn_none rfl) rfl (fun w => (rd_extract rfl rfl rfl)) ?_
     refine GO_of_GL rfl ?_
     refine GL_store (i := 5) (wn_none rfl) rfl rfl rfl rfl ts51 rfl rfl (oneC rfl (oneC rfl one0)) hp rfl (by first | exact Nat.le_of_ble_eq_true rfl | simp [bys_length, *]) rfl ?_
     intro w hp
     refine GL_nil ⟨fun h => absurd h (by decide), ?_⟩
     refine GO_of_GL rfl ?_
     refine GL_rd (v := .int .i64 (defK R (goAt l i).role)) (wn_none rfl) rfl (rd_assign rfl rfl) (GL_nil ⟨fun h => absurd h (by decide), ?_⟩)
     refine GO_nil ?_
     refine GW_drawnK 15 (.one 0 true (.one 1 true (.one 2 true (.one 3 true (.one 4 true (.one 5 true (.one 6 true (.one 7 true (.one 8 true (.one 9 true (.one 10 true (.one 11 false (.one 12 true (.one 13 false (.one 14 true .nil))))))))))))))) mixed (by kernel_rfl) hp (fun _ h => (h.sub (.cons _ (.cons _ (.cons _ (.cons _ (.cons_cons _ (.cons_cons _ (.cons_cons _ (.cons_cons _ .slnil)))))))))) fun w hp => ?_
     have hpS3 := (hp.sub (.cons _ (.cons _ (.cons _ (.cons _ (.cons_cons _ (.cons_cons _ (.cons_cons _ (.cons_cons _ .slnil)))))))))
     refine GO_rdT (v := .pointer (some ⟨gq, 0, none⟩)) rfl (wn_none rfl) rfl (fun w => (rd_move rfl rfl)) ?_
     refine GO_rdT (v := .slice _ _ _) rfl (wn_none rfl) rfl (fun w => (rd_move rfl rfl)) ?_
     refine GO_rdT (v := .int .i64 (i : Int)) rfl (wn_none rfl) rfl (fun w => (rd_move rfl rfl)) ?_
     refine GO_rdT rfl (wn_none rfl) rfl (fun w => (rd_indexS (j := i) rfl rfl rfl Try.underlying45 ts123 rfl (by omega) _ rfl)) ?_
     refine GO_rdT rfl (wn_none rfl) rfl (fun w => (rd_field rfl rfl fa123_2 _ rfl)) ?_
     refine GO_rd rfl rfl (wn_none rfl) rfl hpS3 (fun w hp => (rd_load rfl rfl Try.underlying9 rfl (Sl.goE (hl.keep hp.mod) i (by first | omega | assumption | exact Nat.lt_succ_self _) (go_role _)))) ?_
     refine GO_rdT (v := .slice _ _ _) rfl (wn_none rfl) rfl (fun w => (rd_move rfl rfl)) ?_
     refine GO_rdT (v := .int .i64 (i : Int)) rfl (wn_none rfl) rfl (fun w => (rd_move rfl rfl)) ?_
     refine GO_rdT rfl (wn_none rfl) rfl (fun w => (rd_indexS (j := i) rfl rfl rfl Try.underlying45 ts123 rfl (by omega) _ rfl)) ?_
     refine GO_rdT rfl (wn_none rfl) rfl (fun w => (rd_field rfl rfl fa123_3 _ rfl)) ?_
     refine GO_rd rfl rfl (wn_none rfl) rfl hpS3 (fun w hp => (rd_load rfl rfl Try.underlying36 rfl (Sl.goE (hl.keep hp.mod) i (by first | omega | assumption | exact Nat.lt_succ_self _) (go_ov _)))) ?_
     refine GO_of_GL rfl ?_
     refine GL_call (wn_none rfl) rfl rfl (gu_Of _ _ (goAt l i).ops _ ((hlo _ (goAt_mem (i := i) (by omega))).keep hp.mod)) rfl ?_
     rintro _ w ⟨rfl, hk⟩
     have hp := hp.comp hk
     have hpS4 := (hp.sub (.cons _ (.cons _ (.cons _ (.cons _ (.cons_cons _ (.cons_cons _ (.cons_cons _ (.cons_cons _ .slnil)))))))))
     refine GL_nil ⟨fun _ => hpS4, ?_⟩
     refine GO_rd rfl rfl (wn_none rfl) rfl hpS4 (fun w hp => (rd_buildS (L := (rolC (goAt l i).role (ofBt (goAt l i).ops))) rfl tz59 pl59 (by kernel_rfl))) ?_
     refine GO_of_GL rfl ?_
     refine GL_call (wn_none rfl) rfl rfl (gu_DefineX gq rm pm cr cp RA PA mk ct R L (goAt l i).role (.slice Ao (goAt l i).ops.length co) (goAt l i).ops (by have h1 := (hb0.2 _ (goAt_mem (i := i) (by omega))); omega) _ _ (hp.ownsT 4) hO hG) rfl ?_
     rintro _ w ⟨rfl, RA2, cr2, mk2, hO2, hG2, hk⟩
     have hp := hp.turnsT 4 hk
     have hpS5 := (hp.sub (.cons _ (.cons _ (.cons _ (.cons _ (.cons_cons _ (.cons_cons _ (.cons_cons _ (.cons_cons _ .slnil)))))))))
     refine GL_nil ⟨fun _ => hpS5, ?_⟩
     refine GO_rdT (v := .int .i64 (defK R (goAt l i).role)) rfl (wn_none rfl) rfl (fun w => (rd_assign rfl rfl)) ?_
     refine GO_nil ?_
     refine GW_seq ?_
     refine GW_region ?_
     refine GL_rd (v := .int .i64 (defK R (goAt l i).role)) (wn_none rfl) rfl (rd_move rfl rfl) ?_
     refine GL_rd (v := .int .i64 (defK R (goAt l i).role)) (wn_none rfl) rfl (rd_move rfl rfl) ?_
     refine GL_rd (wn_none rfl) rfl (rd_bin rfl rfl rfl bo_neq) ?_
     refine GL_nil ?_
     refine GW_cond rfl (fun hb4 => ?_) (fun hb4 => ?_)
     ·(try simp only [decide_eq_true_eq, decide_eq_false_iff_not, Bool.not_eq_true', Bool.not_eq_false', Bool.not_eq_eq_eq_not, Bool.not_true, Bool.not_false, Int.not_lt, Int.not_le] at hb4)
      first | exact absurd trivial hb4 | exact absurd rfl hb4
     ·(try simp only [decide_eq_true_eq, decide_eq_false_iff_not, Bool.not_eq_true', Bool.not_eq_false', Bool.not_eq_eq_eq_not, Bool.not_true, Bool.not_false, Int.not_lt, Int.not_le] at hb4)
      refine GW_skip ?_
      refine GW_region ?_
      refine GL_rd (v := .int .i64 (i : Int)) (wn_none rfl) rfl (rd_move rfl rfl) ?_
      refine GL_rd (wn_none rfl) rfl (rd_bin rfl rfl rfl (bo_add64 (by omega))) ?_
      refine GL_rd (v := .int _ _) (wn_none rfl) rfl (rd_assign rfl rfl) ?_
      refine GL_nil ?_
      have hp := (((((((((hp.front 7 rfl).front 7 rfl).front 7 rfl).front 7 rfl).front 7 rfl).front 7 rfl).front 7 rfl).front 7 rfl).take 8)
      exact ihL0 (i + 1, RA2, cr2, mk2, PA, cp, ct, _, _, (defX R ((goAt l i).role, (.slice Ao (goAt l i).ops.length co), (goAt l i).ops)), L) _ _ (by simp only []; omega) ⟨_, slots5 rfl rfl rfl rfl rfl, hp, by omega, hO2, hG2, fun wz hz => okRo_def (hRo wz hz) (hoe ▸ hz _ (goAt_mem (by omega))), by have := defX_len R ((goAt l i).role, (.slice Ao (goAt l i).ops.length co), (goAt l i).ops) hG.srt; omega, by omega⟩
    ·(try simp only [decide_eq_true_eq, decide_eq_false_iff_not, Bool.not_eq_true', Bool.not_eq_false', Bool.not_eq_eq_eq_not, Bool.not_true, Bool.not_false, Int.not_lt, Int.not_le] at hb3)
     refine GW_seq ?_
     refine GW_seq ?_
     refine GW_region ?_
     refine GL_rd (wn_none rfl) rfl (rd_bin rfl rfl rfl bo_eql) ?_
     refine GL_rd (v := .bool _) (wn_none rfl) rfl (rd_assign rfl rfl) ?_
     refine GL_nil ?_
     refine GW_cond rfl (fun hb5 => ?_) (fun hb5 => ?_)
     ·(try simp only [decide_eq_true_eq, decide_eq_false_iff_not, Bool.not_eq_true', Bool.not_eq_false', Bool.not_eq_eq_eq_not, Bool.not_true, Bool.not_false, Int.not_lt, Int.not_le] at hb5)
      refine GW_skip ?_
      refine GW_cond rfl (fun hb6 => ?_) (fun hb6 => ?_)
      ·(try simp only [decide_eq_true_eq, decide_eq_false_iff_not, Bool.not_eq_true', Bool.not_eq_false', Bool.not_eq_eq_eq_not, Bool.not_true, Bool.not_false, Int.not_lt, Int.not_le] at hb6)
       refine GW_seq ?_
       refine GW_drawnK 15 (.one 0 true (.one 1 true (.one 2 true (.one 3 true (.one 4 true (.one 5 true (.one 6 true (.one 7 true (.one 8 true (.one 9 true (.one 10 true (.one 11 false (.one 12 true (.one 13 true (.one 14 true (.one 15 false (.one 16 false .nil))))))))))))))))) mixed (by kernel_rfl) hp (fun _ h => (h.sub (.cons_cons _ (.cons_cons _ (.cons_cons _ (.cons_cons _ (.cons_cons _ (.cons_cons _ (.cons_cons _ (.cons _ .slnil)))))))))) fun w hp => ?_
       have hpS6 := (hp.sub (.cons_cons _ (.cons_cons _ (.cons_cons _ (.cons_cons _ (.cons_cons _ (.cons_cons _ (.cons_cons _ (.cons _ .slnil)))))))))
       refine GO_rd rfl rfl (wn_none rfl) rfl hpS6 (fun w hp => (rd_loadC rfl rfl Try.underlying51 rfl ts51 (hp.get 5 rfl) (by first | (rw [bys_length]; first | exact a32_len _) | rfl | simp [bys_length, *]))) ?_
       refine GO_rdT (v := .slice _ _ _) rfl (wn_none rfl) rfl (fun w => (rd_move rfl rfl)) ?_
       refine GO_rdT (v := .int .i64 (i : Int)) rfl (wn_none rfl) rfl (fun w => (rd_move rfl rfl)) ?_
       refine GO_rdT rfl (wn_none rfl) rfl (fun w => (rd_indexS (j := i) rfl rfl rfl Try.underlying45 ts123 rfl (by omega) _ rfl)) ?_
       refine GO_rdT rfl (wn_none rfl) rfl (fun w => (rd_field rfl rfl fa123_1 _ rfl)) ?_
       refine GO_rd rfl rfl (wn_none rfl) rfl hpS6 (fun w hp => (rd_load rfl rfl Try.underlying9 rfl (Sl.goE (hl.keep hp.mod) i (by first | omega | assumption | exact Nat.lt_succ_self _) (go_who _)))) ?_
       refine GO_rdT (v := .slice _ _ _) rfl (wn_none rfl) rfl (fun w => (rd_move rfl rfl)) ?_
       refine GO_rdT (v := .int .i64 (i : Int)) rfl (wn_none rfl) rfl (fun w => (rd_move rfl rfl)) ?_
       refine GO_rdT rfl (wn_none rfl) rfl (fun w => (rd_indexS (j := i) rfl rfl rfl Try.underlying45 ts123 rfl (by omega) _ rfl)) ?_
       refine GO_rdT rfl (wn_none rfl) rfl (fun w => (rd_field rfl rfl fa123_2 _ rfl)) ?_
       refine GO_rd rfl rfl (wn_none rfl) rfl hpS6 (fun w hp => (rd_load rfl rfl Try.underlying9 rfl (Sl.goE (hl.keep hp.mod) i (by first | omega | assumption | exact Nat.lt_succ_self _) (go_role _)))) ?_
       refine GO_of_GL rfl ?_
       refine GL_call (wn_none rfl) rfl rfl (ref_gGrant _ _ R L (goAt l i).who (goAt l i).role _ (Sl.row (hp.get 6 rfl)) (Sl.row (hp.get 7 rfl)) (by have h1 := (hb0.2 _ (goAt_mem (i := i) (by omega))); omega) (by omega)) rfl ?_
       rintro _ w ⟨lv2, rfl, hk⟩
       have hp := hp.renew 7 rfl hk
       obtain ⟨Alv2, clv2, rfl⟩ := row_shape (hp.get 7 rfl)
       have hpS7 := (hp.sub (.cons_cons _ (.cons_cons _ (.cons_cons _ (.cons_cons _ (.cons_cons _ (.cons_cons _ (.cons_cons _ (.cons _ .slnil)))))))))
       refine GL_nil ⟨fun _ => hpS7, ?_⟩
       refine GO_rdT (v := .tuple _) rfl (wn_none rfl) rfl (fun w => (rd_move rfl rfl)) ?_
       refine GO_rdT (v := .agg ⟨_⟩) rfl (wn_none rfl) rfl (fun w => (rd_extract rfl rfl rfl)) ?_
       refine GO_rdT (v := .int .i64 (graK R L (goAt l i).who (goAt l i).role)) rfl (wn_none rfl) rfl (fun w => (rd_extract rfl rfl rfl)) ?_
       refine GO_of_GL rfl ?_
       refine GL_store (i := 5) (wn_none rfl) rfl rfl rfl rfl ts51 rfl rfl (oneC rfl (oneC rfl one0)) hp rfl (by first | exact Nat.le_of_ble_eq_true rfl | simp [bys_length, *]) rfl ?_
       intro w hp
       refine GL_nil ⟨fun h => absurd h (by decide), ?_⟩
       refine GO_of_GL rfl ?_
       refine GL_rd (v := .int .i64 (graK R L (goAt l i).who (goAt l i).role)) (wn_none rfl) rfl (rd_assign rfl rfl) (GL_nil ⟨fun h => absurd h (by decide), ?_⟩)
       refine GO_nil ?_
       refine GW_drawnK 13 (.one 0 true (.one 1 true (.one 2 true (.one 3 true (.one 4 true (.one 5 true (.one 6 true (.one 7 true (.one 8 true (.one 9 true (.one 10 true (.one 11 false (.one 12 true .nil))))))))))))) mixed (by kernel_rfl) hp (fun _ h => (h.sub (.cons _ (.cons _ (.cons _ (.cons _ (.cons_cons _ (.cons_cons _ (.cons_cons _ (.cons_cons _ .slnil)))))))))) fun w hp => ?_
       have hpS8 := (hp.sub (.cons _ (.cons _ (.cons _ (.cons _ (.cons_cons _ (.cons_cons _ (.cons_cons _ (.cons_cons _ .slnil)))))))))
       refine GO_rdT (v := .pointer (some ⟨gq, 0, none⟩)) rfl (wn_none rfl) rfl (fun w => (rd_move rfl rfl)) ?_
       refine GO_rdT (v := .slice _ _ _) rfl (wn_none rfl) rfl (fun w => (rd_move rfl rfl)) ?_
       refine GO_rdT (v := .int .i64 (i : Int)) rfl (wn_none rfl) rfl (fun w => (rd_move rfl rfl)) ?_
       refine GO_rdT rfl (wn_none rfl) rfl (fun w => (rd_indexS (j := i) rfl rfl rfl Try.underlying45 ts123 rfl (by omega) _ rfl)) ?_
       refine GO_rdT rfl (wn_none rfl) rfl (fun w => (rd_field rfl rfl fa123_1 _ rfl)) ?_
       refine GO_rd rfl rfl (wn_none rfl) rfl hpS8 (fun w hp => (rd_load rfl rfl Try.underlying9 rfl (Sl.goE (hl.keep hp.mod) i (by first | omega | assumption | exact Nat.lt_succ_self _) (go_who _)))) ?_
       refine GO_rdT (v := .slice _ _ _) rfl (wn_none rfl) rfl (fun w => (rd_move rfl rfl)) ?_
       refine GO_rdT (v := .int .i64 (i : Int)) rfl (wn_none rfl) rfl (fun w => (rd_move rfl rfl)) ?_
       refine GO_rdT rfl (wn_none rfl) rfl (fun w => (rd_indexS (j := i) rfl rfl rfl Try.underlying45 ts123 rfl (by omega) _ rfl)) ?_
       refine GO_rdT rfl (wn_none rfl) rfl (fun w => (rd_field rfl rfl fa123_2 _ rfl)) ?_
       refine GO_rd rfl rfl (wn_none rfl) rfl hpS8 (fun w hp => (rd_load rfl rfl Try.underlying9 rfl (Sl.goE (hl.keep hp.mod) i (by first | omega | assumption | exact Nat.lt_succ_self _) (go_role _)))) ?_
       refine GO_of_GL rfl ?_
       refine GL_call (wn_none rfl) rfl rfl (gu_GrantX gq rm pm cr cp RA PA mk ct R L (goAt l i).who (goAt l i).role (by have h1 := (hb0.2 _ (goAt_mem (i := i) (by omega))); omega) (by have h1 := hG.ctl (goAt l i).who; omega) _ _ (hp.ownsT 4) hO hG) rfl ?_
       rintro _ w ⟨rfl, PA2, cp2, ct2, hO2, hG2, hk⟩
       have hp := hp.turnsT 4 hk
       have hpS9 := (hp.sub (.cons _ (.cons _ (.cons _ (.cons _ (.cons_cons _ (.cons_cons _ (.cons_cons _ (.cons_cons _ .slnil)))))))))
       refine GL_nil ⟨fun _ => hpS9, ?_⟩
       refine GO_rdT (v := .int .i64 (graK R L (goAt l i).who (goAt l i).role)) rfl (wn_none rfl) rfl (fun w => (rd_assign rfl rfl)) ?_
       refine GO_nil ?_
       refine GW_seq ?_
       refine GW_region ?_
       refine GL_rd (v := .int .i64 (graK R L (goAt l i).who (goAt l i).role)) (wn_none rfl) rfl (rd_move rfl rfl) ?_
       refine GL_rd (v := .int .i64 (graK R L (goAt l i).who (goAt l i).role)) (wn_none rfl) rfl (rd_move rfl rfl) ?_
       refine GL_rd (wn_none rfl) rfl (rd_bin rfl rfl rfl bo_neq) ?_
       refine GL_nil ?_
       refine GW_cond rfl (fun hb7 => ?_) (fun hb7 => ?_)
       ·(try simp only [decide_eq_true_eq, decide_eq_false_iff_not, Bool.not_eq_true', Bool.not_eq_false', Bool.not_eq_eq_eq_not, Bool.not_true, Bool.not_false, Int.not_lt, Int.not_le] at hb7)
        first | exact absurd trivial hb7 | exact absurd rfl hb7
       ·(try simp only [decide_eq_true_eq, decide_eq_false_iff_not, Bool.not_eq_true', Bool.not_eq_false', Bool.not_eq_eq_eq_not, Bool.not_true, Bool.not_false, Int.not_lt, Int.not_le] at hb7)
        refine GW_skip ?_
        refine GW_region ?_
        refine GL_rd (v := .int .i64 (i : Int)) (wn_none rfl) rfl (rd_move rfl rfl) ?_
        refine GL_rd (wn_none rfl) rfl (rd_bin rfl rfl rfl (bo_add64 (by omega))) ?_
        refine GL_rd (v := .int _ _) (wn_none rfl) rfl (rd_assign rfl rfl) ?_
        refine GL_nil ?_
        have hp := (((((((((hp.front 7 rfl).front 7 rfl).front 7 rfl).front 7 rfl).front 7 rfl).front 7 rfl).front 7 rfl).front 7 rfl).take 8)
        exact ihL0 (i + 1, RA, cr, mk, PA2, cp2, ct2, _, _, R, (graX R L (goAt l i).who (goAt l i).role)) _ _ (by simp only []; omega) ⟨_, slots5 rfl rfl rfl rfl rfl, hp, by omega, hO2, hG2, hRo, by omega, by have := graX_len R L (goAt l i).who (goAt l i).role; omega⟩
      ·(try simp only [decide_eq_true_eq, decide_eq_false_iff_not, Bool.not_eq_true', Bool.not_eq_false', Bool.not_eq_eq_eq_not, Bool.not_true, Bool.not_false, Int.not_lt, Int.not_le] at hb6)
       refine GW_seq ?_
       refine GW_region ?_
       refine GL_rd (wn_none rfl) rfl (rd_bin rfl rfl rfl bo_eql) ?_
       refine GL_rd (v := .bool _) (wn_none rfl) rfl (rd_assign rfl rfl) ?_
       refine GL_nil ?_
       refine GW_cond rfl (fun hb8 => ?_) (fun hb8 => ?_)
       ·(try simp only [decide_eq_true_eq, decide_eq_false_iff_not, Bool.not_eq_true', Bool.not_eq_false', Bool.not_eq_eq_eq_not, Bool.not_true, Bool.not_false, Int.not_lt, Int.not_le] at hb8)
        refine GW_seq ?_
        refine GW_drawnK 15 (.one 0 true (.one 1 true (.one 2 true (.one 3 true (.one 4 true (.one 5 true (.one 6 true (.one 7 true (.one 8 true (.one 9 true (.one 10 true (.one 11 false (.one 12 true (.one 13 true (.one 14 true (.one 15 false (.one 16 false .nil))))))))))))))))) mixed (by kernel_rfl) hp (fun _ h => (h.sub (.cons_cons _ (.cons_cons _ (.cons_cons _ (.cons_cons _ (.cons_cons _ (.cons_cons _ (.cons_cons _ (.cons _ .slnil)))))))))) fun w hp => ?_
        have hpS10 := (hp.sub (.cons_cons _ (.cons_cons _ (.cons_cons _ (.cons_cons _ (.cons_cons _ (.cons_cons _ (.cons_cons _ (.cons _ .slnil)))))))))
        refine GO_rd rfl rfl (wn_none rfl) rfl hpS10 (fun w hp => (rd_loadC rfl rfl Try.underlying51 rfl ts51 (hp.get 5 rfl) (by first | (rw [bys_length]; first | exact a32_len _) | rfl | simp [bys_length, *]))) ?_
        refine GO_rdT (v := .slice _ _ _) rfl (wn_none rfl) rfl (fun w => (rd_move rfl rfl)) ?_
        refine GO_rdT (v := .int .i64 (i : Int)) rfl (wn_none rfl) rfl (fun w => (rd_move rfl rfl)) ?_
        refine GO_rdT rfl (wn_none rfl) rfl (fun w => (rd_indexS (j := i) rfl rfl rfl Try.underlying45 ts123 rfl (by omega) _ rfl)) ?_
        refine GO_rdT rfl (wn_none rfl) rfl (fun w => (rd_field rfl rfl fa123_1 _ rfl)) ?_
        refine GO_rd rfl rfl (wn_none rfl) rfl hpS10 (fun w hp => (rd_load rfl rfl Try.underlying9 rfl (Sl.goE (hl.keep hp.mod) i (by first | omega | assumption | exact Nat.lt_succ_self _) (go_who _)))) ?_
        refine GO_rdT (v := .slice _ _ _) rfl (wn_none rfl) rfl (fun w => (rd_move rfl rfl)) ?_
        refine GO_rdT (v := .int .i64 (i : Int)) rfl (wn_none rfl) rfl (fun w => (rd_move rfl rfl)) ?_
        refine GO_rdT rfl (wn_none rfl) rfl (fun w => (rd_indexS (j := i) rfl rfl rfl Try.underlying45 ts123 rfl (by omega) _ rfl)) ?_
        refine GO_rdT rfl (wn_none rfl) rfl (fun w => (rd_field rfl rfl fa123_2 _ rfl)) ?_
        refine GO_rd rfl rfl (wn_none rfl) rfl hpS10 (fun w hp => (rd_load rfl rfl Try.underlying9 rfl (Sl.goE (hl.keep hp.mod) i (by first | omega | assumption | exact Nat.lt_succ_self _) (go_role _)))) ?_
        refine GO_of_GL rfl ?_
        refine GL_call (wn_none rfl) rfl rfl (ref_gRevoke _ _ R L (goAt l i).who (goAt l i).role _ (Sl.row (hp.get 6 rfl)) (Sl.row (hp.get 7 rfl)) (by omega)) rfl ?_
        rintro _ w ⟨lv2, rfl, hk⟩
        have hp := hp.renew 7 rfl hk
        obtain ⟨Alv2, clv2, rfl⟩ := row_shape (hp.get 7 rfl)
        have hpS11 := (hp.sub (.cons_cons _ (.cons_cons _ (.cons_cons _ (.cons_cons _ (.cons_cons _ (.cons_cons _ (.cons_cons _ (.cons _ .slnil)))))))))
        refine GL_nil ⟨fun _ => hpS11, ?_⟩
        refine GO_rdT (v := .tuple _) rfl (wn_none rfl) rfl (fun w => (rd_move rfl rfl)) ?_
        refine GO_rdT (v := .agg ⟨_⟩) rfl (wn_none rfl) rfl (fun w => (rd_extract rfl rfl rfl)) ?_
        refine GO_rdT (v := .int .i64 (revK L (goAt l i).who (goAt l i).role)) rfl (wn_none rfl) rfl (fun w => (rd_extract rfl rfl rfl)) ?_
        refine GO_of_GL rfl ?_
        refine GL_store (i := 5) (wn_none rfl) rfl rfl rfl rfl ts51 rfl rfl (oneC rfl (oneC rfl one0)) hp rfl (by first | exact Nat.le_of_ble_eq_true rfl | simp [bys_length, *]) rfl ?_
        intro w hp
        refine GL_nil ⟨fun h => absurd h (by decide), ?_⟩
        refine GO_of_GL rfl ?_
        refine GL_rd (v := .int .i64 (revK L (goAt l i).who (goAt l i).role)) (wn_none rfl) rfl (rd_assign rfl rfl) (GL_nil ⟨fun h => absurd h (by decide), ?_⟩)
        refine GO_nil ?_
        refine GW_drawnK 13 (.one 0 true (.one 1 true (.one 2 true (.one 3 true (.one 4 true (.one 5 true (.one 6 true (.one 7 true (.one 8 true (.one 9 true (.one 10 true (.one 11 false (.one 12 true .nil))))))))))))) mixed (by kernel_rfl) hp (fun _ h => (h.sub (.cons _ (.cons _ (.cons _ (.cons _ (.cons_cons _ (.cons_cons _ (.cons_cons _ (.cons_cons _ .slnil)))))))))) fun w hp => ?_
        have hpS12 := (hp.sub (.cons _ (.cons _ (.cons _ (.cons _ (.cons_cons _ (.cons_cons _ (.cons_cons _ (.cons_cons _ .slnil)))))))))
        refine GO_rdT (v := .pointer (some ⟨gq, 0, none⟩)) rfl (wn_none rfl) rfl (fun w => (rd_move rfl rfl)) ?_
        refine GO_rdT (v := .slice _ _ _) rfl (wn_none rfl) rfl (fun w => (rd_move rfl rfl)) ?_
        refine GO_rdT (v := .int .i64 (i : Int)) rfl (wn_none rfl) rfl (fun w => (rd_move rfl rfl)) ?_
        refine GO_rdT rfl (wn_none rfl) rfl (fun w => (rd_indexS (j := i) rfl rfl rfl Try.underlying45 ts123 rfl (by omega) _ rfl)) ?_
        refine GO_rdT rfl (wn_none rfl) rfl (fun w => (rd_field rfl rfl fa123_1 _ rfl)) ?_
        refine GO_rd rfl rfl (wn_none rfl) rfl hpS12 (fun w hp => (rd_load rfl rfl Try.underlying9 rfl (Sl.goE (hl.keep hp.mod) i (by first | omega | assumption | exact Nat.lt_succ_self _) (go_who _)))) ?_
        refine GO_rdT (v := .slice _ _ _) rfl (wn_none rfl) rfl (fun w => (rd_move rfl rfl)) ?_
        refine GO_rdT (v := .int .i64 (i : Int)) rfl (wn_none rfl) rfl (fun w => (rd_move rfl rfl)) ?_
        refine GO_rdT rfl (wn_none rfl) rfl (fun w => (rd_indexS (j := i) rfl rfl rfl Try.underlying45 ts123 rfl (by omega) _ rfl)) ?_
        refine GO_rdT rfl (wn_none rfl) rfl (fun w => (rd_field rfl rfl fa123_2 _ rfl)) ?_
        refine GO_rd rfl rfl (wn_none rfl) rfl hpS12 (fun w hp => (rd_load rfl rfl Try.underlying9 rfl (Sl.goE (hl.keep hp.mod) i (by first | omega | assumption | exact Nat.lt_succ_self _) (go_role _)))) ?_
        refine GO_of_GL rfl ?_
        refine GL_call (wn_none rfl) rfl rfl (gu_RevokeX gq rm pm cr cp RA PA mk ct R L (goAt l i).who (goAt l i).role (by have h1 := hG.ctl (goAt l i).who; omega) _ _ (hp.ownsT 4) hO hG) rfl ?_
        rintro _ w ⟨rfl, PA2, cp2, ct2, hO2, hG2, hk⟩
        have hp := hp.turnsT 4 hk
        have hpS13 := (hp.sub (.cons _ (.cons _ (.cons _ (.cons _ (.cons_cons _ (.cons_cons _ (.cons_cons _ (.cons_cons _ .slnil)))))))))
        refine GL_nil ⟨fun _ => hpS13, ?_⟩
        refine GO_rdT (v := .int .i64 (revK L (goAt l i).who (goAt l i).role)) rfl (wn_none rfl) rfl (fun w => (rd_assign rfl rfl)) ?_
        refine GO_nil ?_
        refine GW_seq ?_
        refine GW_region ?_
        refine GL_rd (v := .int .i64 (revK L (goAt l i).who (goAt l i).role)) (wn_none rfl) rfl (rd_move rfl rfl) ?_
        refine GL_rd (v := .int .i64 (revK L (goAt l i).who (goAt l i).role)) (wn_none rfl) rfl (rd_move rfl rfl) ?_
        refine GL_rd (wn_none rfl) rfl (rd_bin rfl rfl rfl bo_neq) ?_
        refine GL_nil ?_
        refine GW_cond rfl (fun hb9 => ?_) (fun hb9 => ?_)
        ·(try simp only [decide_eq_true_eq, decide_eq_false_iff_not, Bool.not_eq_true', Bool.not_eq_false', Bool.not_eq_eq_eq_not, Bool.not_true, Bool.not_false, Int.not_lt, Int.not_le] at hb9)
         first | exact absurd trivial hb9 | exact absurd rfl hb9
        ·(try simp only [decide_eq_true_eq, decide_eq_false_iff_not, Bool.not_eq_true', Bool.not_eq_false', Bool.not_eq_eq_eq_not, Bool.not_true, Bool.not_false, Int.not_lt, Int.not_le] at hb9)
         refine GW_skip ?_
         refine GW_region ?_
         refine GL_rd (v := .int .i64 (i : Int)) (wn_none rfl) rfl (rd_move rfl rfl) ?_
         refine GL_rd (wn_none rfl) rfl (rd_bin rfl rfl rfl (bo_add64 (by omega))) ?_
         refine GL_rd (v := .int _ _) (wn_none rfl) rfl (rd_assign rfl rfl) ?_
         refine GL_nil ?_
         have hp := (((((((((hp.front 7 rfl).front 7 rfl).front 7 rfl).front 7 rfl).front 7 rfl).front 7 rfl).front 7 rfl).front 7 rfl).take 8)
         exact ihL0 (i + 1, RA, cr, mk, PA2, cp2, ct2, _, _, R, (revX L (goAt l i).who (goAt l i).role)) _ _ (by simp only []; omega) ⟨_, slots5 rfl rfl rfl rfl rfl, hp, by omega, hO2, hG2, hRo, by omega, by have := revX_len L (goAt l i).who (goAt l i).role; omega⟩
       ·(try simp only [decide_eq_true_eq, decide_eq_false_iff_not, Bool.not_eq_true', Bool.not_eq_false', Bool.not_eq_eq_eq_not, Bool.not_true, Bool.not_false, Int.not_lt, Int.not_le] at hb8)
        refine GW_skip ?_
        refine GW_seq ?_
        refine GW_region ?_
        refine GL_rd (v := .int _ _) (wn_none rfl) rfl (rd_move rfl rfl) ?_
        refine GL_rd (v := .int _ _) (wn_none rfl) rfl (rd_move rfl rfl) ?_
        refine GL_rd (wn_none rfl) rfl (rd_bin rfl rfl rfl bo_neq) ?_
        refine GL_nil ?_
        refine GW_cond rfl (fun hb10 => ?_) (fun hb10 => ?_)
        ·(try simp only [decide_eq_true_eq, decide_eq_false_iff_not, Bool.not_eq_true', Bool.not_eq_false', Bool.not_eq_eq_eq_not, Bool.not_true, Bool.not_false, Int.not_lt, Int.not_le] at hb10)
         first | exact absurd trivial hb10 | exact absurd rfl hb10
        ·(try simp only [decide_eq_true_eq, decide_eq_false_iff_not, Bool.not_eq_true', Bool.not_eq_false', Bool.not_eq_eq_eq_not, Bool.not_true, Bool.not_false, Int.not_lt, Int.not_le] at hb10)
         refine GW_skip ?_
         refine GW_region ?_
         refine GL_rd (v := .int .i64 (i : Int)) (wn_none rfl) rfl (rd_move rfl rfl) ?_
         refine GL_rd (wn_none rfl) rfl (rd_bin rfl rfl rfl (bo_add64 (by omega))) ?_
         refine GL_rd (v := .int _ _) (wn_none rfl) rfl (rd_assign rfl rfl) ?_
         refine GL_nil ?_
         have hp := (((((((((hp.front 7 rfl).front 7 rfl).front 7 rfl).front 7 rfl).front 7 rfl).front 7 rfl).front 7 rfl).front 7 rfl).take 8)
         exact ihL0 (i + 1, RA, cr, mk, PA, cp, ct, _, _, R, L) _ _ (by simp only []; omega) ⟨_, slots5 rfl rfl rfl rfl rfl, hp, by omega, hO, hG, hRo, by omega, by omega⟩
     ·(try simp only [decide_eq_true_eq, decide_eq_false_iff_not, Bool.not_eq_true', Bool.not_eq_false', Bool.not_eq_eq_eq_not, Bool.not_true, Bool.not_false, Int.not_lt, Int.not_le] at hb5)
      refine GW_region ?_
      refine GL_rd (wn_none rfl) rfl (rd_bin rfl rfl rfl bo_eql) ?_
      refine GL_rd (v := .bool _) (wn_none rfl) rfl (rd_assign rfl rfl) ?_
      refine GL_nil ?_
      refine GW_cond rfl (fun hb11 => ?_) (fun hb11 => ?_)
      ·(try simp only [decide_eq_true_eq, decide_eq_false_iff_not, Bool.not_eq_true', Bool.not_eq_false', Bool.not_eq_eq_eq_not, Bool.not_true, Bool.not_false, Int.not_lt, Int.not_le] at hb11)
       refine GW_seq ?_
       refine GW_drawnK 15 (.one 0 true (.one 1 true (.one 2 true (.one 3 true (.one 4 true (.one 5 true (.one 6 true (.one 7 true (.one 8 true (.one 9 true (.one 10 true (.one 11 false (.one 12 true (.one 13 true (.one 14 true (.one 15 false (.one 16 false .nil))))))))))))))))) mixed (by kernel_rfl) hp (fun _ h => (h.sub (.cons_cons _ (.cons_cons _ (.cons_cons _ (.cons_cons _ (.cons_cons _ (.cons_cons _ (.cons_cons _ (.cons _ .slnil)))))))))) fun w hp => ?_
       have hpS14 := (hp.sub (.cons_cons _ (.cons_cons _ (.cons_cons _ (.cons_cons _ (.cons_cons _ (.cons_cons _ (.cons_cons _ (.cons _ .slnil)))))))))
       refine GO_rd rfl rfl (wn_none rfl) rfl hpS14 (fun w hp => (rd_loadC rfl rfl Try.underlying51 rfl ts51 (hp.get 5 rfl) (by first | (rw [bys_length]; first | exact a32_len _) | rfl | simp [bys_length, *]))) ?_
       refine GO_rdT (v := .slice _ _ _) rfl (wn_none rfl) rfl (fun w => (rd_move rfl rfl)) ?_
       refine GO_rdT (v := .int .i64 (i : Int)) rfl (wn_none rfl) rfl (fun w => (rd_move rfl rfl)) ?_
       refine GO_rdT rfl (wn_none rfl) rfl (fun w => (rd_indexS (j := i) rfl rfl rfl Try.underlying45 ts123 rfl (by omega) _ rfl)) ?_
       refine GO_rdT rfl (wn_none rfl) rfl (fun w => (rd_field rfl rfl fa123_1 _ rfl)) ?_
       refine GO_rd rfl rfl (wn_none rfl) rfl hpS14 (fun w hp => (rd_load rfl rfl Try.underlying9 rfl (Sl.goE (hl.keep hp.mod) i (by first | omega | assumption | exact Nat.lt_succ_self _) (go_who _)))) ?_
       refine GO_rdT (v := .slice _ _ _) rfl (wn_none rfl) rfl (fun w => (rd_move rfl rfl)) ?_
       refine GO_rdT (v := .int .i64 (i : Int)) rfl (wn_none rfl) rfl (fun w => (rd_move rfl rfl)) ?_
       refine GO_rdT rfl (wn_none rfl) rfl (fun w => (rd_indexS (j := i) rfl rfl rfl Try.underlying45 ts123 rfl (by omega) _ rfl)) ?_
       refine GO_rdT rfl (wn_none rfl) rfl (fun w => (rd_field rfl rfl fa123_2 _ rfl)) ?_
       refine GO_rd rfl rfl (wn_none rfl) rfl hpS14 (fun w hp => (rd_load rfl rfl Try.underlying9 rfl (Sl.goE (hl.keep hp.mod) i (by first | omega | assumption | exact Nat.lt_succ_self _) (go_role _)))) ?_
       refine GO_of_GL rfl ?_
       refine GL_call (wn_none rfl) rfl rfl (ref_gGrant _ _ R L (goAt l i).who (goAt l i).role _ (Sl.row (hp.get 6 rfl)) (Sl.row (hp.get 7 rfl)) (by have h1 := (hb0.2 _ (goAt_mem (i := i) (by omega))); omega) (by omega)) rfl ?_
       rintro _ w ⟨lv2, rfl, hk⟩
       have hp := hp.renew 7 rfl hk
       obtain ⟨Alv2, clv2, rfl⟩ := row_shape (hp.get 7 rfl)
       have hpS15 := (hp.sub (.cons_cons _ (.cons_cons _ (.cons_cons _ (.cons_cons _ (.cons_cons _ (.cons_cons _ (.cons_cons _ (.cons _ .slnil)))))))))
       refine GL_nil ⟨fun _ => hpS15, ?_⟩
       refine GO_rdT (v := .tuple _) rfl (wn_none rfl) rfl (fun w => (rd_move rfl rfl)) ?_
       refine GO_rdT (v := .agg ⟨_⟩) rfl (wn_none rfl) rfl (fun w => (rd_extract rfl rfl rfl)) ?_
       refine GO_rdT (v := .int .i64 (graK R L (goAt l i).who (goAt l i).role)) rfl (wn_none rfl) rfl (fun w => (rd_extract rfl rfl rfl)) ?_
       refine GO_of_GL rfl ?_
       refine GL_store (i := 5) (wn_none rfl) rfl rfl rfl rfl ts51 rfl rfl (oneC rfl (oneC rfl one0)) hp rfl (by first | exact Nat.le_of_ble_eq_true rfl | simp [bys_length, *]) rfl ?_
       intro w hp
       refine GL_nil ⟨fun h => absurd h (by decide), ?_⟩
       refine GO_of_GL rfl ?_
       refine GL_rd (v := .int .i64 (graK R L (goAt l i).who (goAt l i).role)) (wn_none rfl) rfl (rd_assign rfl rfl) (GL_nil ⟨fun h => absurd h (by decide), ?_⟩)
       refine GO_nil ?_
       refine GW_drawnK 13 (.one 0 true (.one 1 true (.one 2 true (.one 3 true (.one 4 true (.one 5 true (.one 6 true (.one 7 true (.one 8 true (.one 9 true (.one 10 true (.one 11 false (.one 12 true .nil))))))))))))) mixed (by kernel_rfl) hp (fun _ h => (h.sub (.cons _ (.cons _ (.cons _ (.cons _ (.cons_cons _ (.cons_cons _ (.cons_cons _ (.cons_cons _ .slnil)))))))))) fun w hp => ?_
       have hpS16 := (hp.sub (.cons _ (.cons _ (.cons _ (.cons _ (.cons_cons _ (.cons_cons _ (.cons_cons _ (.cons_cons _ .slnil)))))))))
       refine GO_rdT (v := .pointer (some ⟨gq, 0, none⟩)) rfl (wn_none rfl) rfl (fun w => (rd_move rfl rfl)) ?_
       refine GO_rdT (v := .slice _ _ _) rfl (wn_none rfl) rfl (fun w => (rd_move rfl rfl)) ?_
       refine GO_rdT (v := .int .i64 (i : Int)) rfl (wn_none rfl) rfl (fun w => (rd_move rfl rfl)) ?_
       refine GO_rdT rfl (wn_none rfl) rfl (fun w => (rd_indexS (j := i) rfl rfl rfl Try.underlying45 ts123 rfl (by omega) _ rfl)) ?_
       refine GO_rdT rfl (wn_none rfl) rfl (fun w => (rd_field rfl rfl fa123_1 _ rfl)) ?_
       refine GO_rd rfl rfl (wn_none rfl) rfl hpS16 (fun w hp => (rd_load rfl rfl Try.underlying9 rfl (Sl.goE (hl.keep hp.mod) i (by first | omega | assumption | exact Nat.lt_succ_self _) (go_who _)))) ?_
       refine GO_rdT (v := .slice _ _ _) rfl (wn_none rfl) rfl (fun w => (rd_move rfl rfl)) ?_
       refine GO_rdT (v := .int .i64 (i : Int)) rfl (wn_none rfl) rfl (fun w => (rd_move rfl rfl)) ?_
       refine GO_rdT rfl (wn_none rfl) rfl (fun w => (rd_indexS (j := i) rfl rfl rfl Try.underlying45 ts123 rfl (by omega) _ rfl)) ?_
       refine GO_rdT rfl (wn_none rfl) rfl (fun w => (rd_field rfl rfl fa123_2 _ rfl)) ?_
       refine GO_rd rfl rfl (wn_none rfl) rfl hpS16 (fun w hp => (rd_load rfl rfl Try.underlying9 rfl (Sl.goE (hl.keep hp.mod) i (by first | omega | assumption | exact Nat.lt_succ_self _) (go_role _)))) ?_
       refine GO_of_GL rfl ?_
       refine GL_call (wn_none rfl) rfl rfl (gu_GrantX gq rm pm cr cp RA PA mk ct R L (goAt l i).who (goAt l i).role (by have h1 := (hb0.2 _ (goAt_mem (i := i) (by omega))); omega) (by have h1 := hG.ctl (goAt l i).who; omega) _ _ (hp.ownsT 4) hO hG) rfl ?_
       rintro _ w ⟨rfl, PA2, cp2, ct2, hO2, hG2, hk⟩
       have hp := hp.turnsT 4 hk
       have hpS17 := (hp.sub (.cons _ (.cons _ (.cons _ (.cons _ (.cons_cons _ (.cons_cons _ (.cons_cons _ (.cons_cons _ .slnil)))))))))
       refine GL_nil ⟨fun _ => hpS17, ?_⟩
       refine GO_rdT (v := .int .i64 (graK R L (goAt l i).who (goAt l i).role)) rfl (wn_none rfl) rfl (fun w => (rd_assign rfl rfl)) ?_
       refine GO_nil ?_
       refine GW_seq ?_
       refine GW_region ?_
       refine GL_rd (v := .int .i64 (graK R L (goAt l i).who (goAt l i).role)) (wn_none rfl) rfl (rd_move rfl rfl) ?_
       refine GL_rd (v := .int .i64 (graK R L (goAt l i).who (goAt l i).role)) (wn_none rfl) rfl (rd_move rfl rfl) ?_
       refine GL_rd (wn_none rfl) rfl (rd_bin rfl rfl rfl bo_neq) ?_
       refine GL_nil ?_
       refine GW_cond rfl (fun hb12 => ?_) (fun hb12 => ?_)
       ·(try simp only [decide_eq_true_eq, decide_eq_false_iff_not, Bool.not_eq_true', Bool.not_eq_false', Bool.not_eq_eq_eq_not, Bool.not_true, Bool.not_false, Int.not_lt, Int.not_le] at hb12)
        first | exact absurd trivial hb12 | exact absurd rfl hb12
       ·(try simp only [decide_eq_true_eq, decide_eq_false_iff_not, Bool.not_eq_true', Bool.not_eq_false', Bool.not_eq_eq_eq_not, Bool.not_true, Bool.not_false, Int.not_lt, Int.not_le] at hb12)
        refine GW_skip ?_
        refine GW_region ?_
        refine GL_rd (v := .int .i64 (i : Int)) (wn_none rfl) rfl (rd_move rfl rfl) ?_
        refine GL_rd (wn_none rfl) rfl (rd_bin rfl rfl rfl (bo_add64 (by omega))) ?_
        refine GL_rd (v := .int _ _) (wn_none rfl) rfl (rd_assign rfl rfl) ?_
        refine GL_nil ?_
        have hp := (((((((((hp.front 7 rfl).front 7 rfl).front 7 rfl).front 7 rfl).front 7 rfl).front 7 rfl).front 7 rfl).front 7 rfl).take 8)
        exact ihL0 (i + 1, RA, cr, mk, PA2, cp2, ct2, _, _, R, (graX R L (goAt l i).who (goAt l i).role)) _ _ (by simp only []; omega) ⟨_, slots5 rfl rfl rfl rfl rfl, hp, by omega, hO2, hG2, hRo, by omega, by have := graX_len R L (goAt l i).who (goAt l i).role; omega⟩
      ·(try simp only [decide_eq_true_eq, decide_eq_false_iff_not, Bool.not_eq_true', Bool.not_eq_false', Bool.not_eq_eq_eq_not, Bool.not_true, Bool.not_false, Int.not_lt, Int.not_le] at hb11)
       refine GW_seq ?_
       refine GW_region ?_
       refine GL_rd (wn_none rfl) rfl (rd_bin rfl rfl rfl bo_eql) ?_
       refine GL_rd (v := .bool _) (wn_none rfl) rfl (rd_assign rfl rfl) ?_
       refine GL_nil ?_
       refine GW_cond rfl (fun hb13 => ?_) (fun hb13 => ?_)
       ·(try simp only [decide_eq_true_eq, decide_eq_false_iff_not, Bool.not_eq_true', Bool.not_eq_false', Bool.not_eq_eq_eq_not, Bool.not_true, Bool.not_false, Int.not_lt, Int.not_le] at hb13)
        refine GW_seq ?_
        refine GW_drawnK 15 (.one 0 true (.one 1 true (.one 2 true (.one 3 true (.one 4 true (.one 5 true (.one 6 true (.one 7 true (.one 8 true (.one 9 true (.one 10 true (.one 11 false (.one 12 true (.one 13 true (.one 14 true (.one 15 false (.one 16 false .nil))))))))))))))))) mixed (by kernel_rfl) hp (fun _ h => (h.sub (.cons_cons _ (.cons_cons _ (.cons_cons _ (.cons_cons _ (.cons_cons _ (.cons_cons _ (.cons_cons _ (.cons _ .slnil)))))))))) fun w hp => ?_
        have hpS18 := (hp.sub (.cons_cons _ (.cons_cons _ (.cons_cons _ (.cons_cons _ (.cons_cons _ (.cons_cons _ (.cons_cons _ (.cons _ .slnil)))))))))
        refine GO_rd rfl rfl (wn_none rfl) rfl hpS18 (fun w hp => (rd_loadC rfl rfl Try.underlying51 rfl ts51 (hp.get 5 rfl) (by first | (rw [bys_length]; first | exact a32_len _) | rfl | simp [bys_length, *]))) ?_
        refine GO_rdT (v := .slice _ _ _) rfl (wn_none rfl) rfl (fun w => (rd_move rfl rfl)) ?_
        refine GO_rdT (v := .int .i64 (i : Int)) rfl (wn_none rfl) rfl (fun w => (rd_move rfl rfl)) ?_
        refine GO_rdT rfl (wn_none rfl) rfl (fun w => (rd_indexS (j := i) rfl rfl rfl Try.underlying45 ts123 rfl (by omega) _ rfl)) ?_
        refine GO_rdT rfl (wn_none rfl) rfl (fun w => (rd_field rfl rfl fa123_1 _ rfl)) ?_
        refine GO_rd rfl rfl (wn_none rfl) rfl hpS18 (fun w hp => (rd_load rfl rfl Try.underlying9 rfl (Sl.goE (hl.keep hp.mod) i (by first | omega | assumption | exact Nat.lt_succ_self _) (go_who _)))) ?_
        refine GO_rdT (v := .slice _ _ _) rfl (wn_none rfl) rfl (fun w => (rd_move rfl rfl)) ?_
        refine GO_rdT (v := .int .i64 (i : Int)) rfl (wn_none rfl) rfl (fun w => (rd_move rfl rfl)) ?_
        refine GO_rdT rfl (wn_none rfl) rfl (fun w => (rd_indexS (j := i) rfl rfl rfl Try.underlying45 ts123 rfl (by omega) _ rfl)) ?_
        refine GO_rdT rfl (wn_none rfl) rfl (fun w => (rd_field rfl rfl fa123_2 _ rfl)) ?_
        refine GO_rd rfl rfl (wn_none rfl) rfl hpS18 (fun w hp => (rd_load rfl rfl Try.underlying9 rfl (Sl.goE (hl.keep hp.mod) i (by first | omega | assumption | exact Nat.lt_succ_self _) (go_role _)))) ?_
        refine GO_of_GL rfl ?_
        refine GL_call (wn_none rfl) rfl rfl (ref_gRevoke _ _ R L (goAt l i).who (goAt l i).role _ (Sl.row (hp.get 6 rfl)) (Sl.row (hp.get 7 rfl)) (by omega)) rfl ?_
        rintro _ w ⟨lv2, rfl, hk⟩
        have hp := hp.renew 7 rfl hk
        obtain ⟨Alv2, clv2, rfl⟩ := row_shape (hp.get 7 rfl)
        have hpS19 := (hp.sub (.cons_cons _ (.cons_cons _ (.cons_cons _ (.cons_cons _ (.cons_cons _ (.cons_cons _ (.cons_cons _ (.cons _ .slnil)))))))))
        refine GL_nil ⟨fun _ => hpS19, ?_⟩
        refine GO_rdT (v := .tuple _) rfl (wn_none rfl) rfl (fun w => (rd_move rfl rfl)) ?_
        refine GO_rdT (v := .agg ⟨_⟩) rfl (wn_none rfl) rfl (fun w => (rd_extract rfl rfl rfl)) ?_
        refine GO_rdT (v := .int .i64 (revK L (goAt l i).who (goAt l i).role)) rfl (wn_none rfl) rfl (fun w => (rd_extract rfl rfl rfl)) ?_
        refine GO_of_GL rfl ?_
        refine GL_store (i := 5) (wn_none rfl) rfl rfl rfl rfl ts51 rfl rfl (oneC rfl (oneC rfl one0)) hp rfl (by first | exact Nat.le_of_ble_eq_true rfl | simp [bys_length, *]) rfl ?_
        intro w hp
        refine GL_nil ⟨fun h => absurd h (by decide), ?_⟩
        refine GO_of_GL rfl ?_
        refine GL_rd (v := .int .i64 (revK L (goAt l i).who (goAt l i).role)) (wn_none rfl) rfl (rd_assign rfl rfl) (GL_nil ⟨fun h => absurd h (by decide), ?_⟩)
        refine GO_nil ?_
        refine GW_drawnK 13 (.one 0 true (.one 1 true (.one 2 true (.one 3 true (.one 4 true (.one 5 true (.one 6 true (.one 7 true (.one 8 true (.one 9 true (.one 10 true (.one 11 false (.one 12 true .nil))))))))))))) mixed (by kernel_rfl) hp (fun _ h => (h.sub (.cons _ (.cons _ (.cons _ (.cons _ (.cons_cons _ (.cons_cons _ (.cons_cons _ (.cons_cons _ .slnil)))))))))) fun w hp => ?_
        have hpS20 := (hp.sub (.cons _ (.cons _ (.cons _ (.cons _ (.cons_cons _ (.cons_cons _ (.cons_cons _ (.cons_cons _ .slnil)))))))))
        refine GO_rdT (v := .pointer (some ⟨gq, 0, none⟩)) rfl (wn_none rfl) rfl (fun w => (rd_move rfl rfl)) ?_
        refine GO_rdT (v := .slice _ _ _) rfl (wn_none rfl) rfl (fun w => (rd_move rfl rfl)) ?_
        refine GO_rdT (v := .int .i64 (i : Int)) rfl (wn_none rfl) rfl (fun w => (rd_move rfl rfl)) ?_
        refine GO_rdT rfl (wn_none rfl) rfl (fun w => (rd_indexS (j := i) rfl rfl rfl Try.underlying45 ts123 rfl (by omega) _ rfl)) ?_
        refine GO_rdT rfl (wn_none rfl) rfl (fun w => (rd_field rfl rfl fa123_1 _ rfl)) ?_
        refine GO_rd rfl rfl (wn_none rfl) rfl hpS20 (fun w hp => (rd_load rfl rfl Try.underlying9 rfl (Sl.goE (hl.keep hp.mod) i (by first | omega | assumption | exact Nat.lt_succ_self _) (go_who _)))) ?_
        refine GO_rdT (v := .slice _ _ _) rfl (wn_none rfl) rfl (fun w => (rd_move rfl rfl)) ?_
        refine GO_rdT (v := .int .i64 (i : Int)) rfl (wn_none rfl) rfl (fun w => (rd_move rfl rfl)) ?_
        refine GO_rdT rfl (wn_none rfl) rfl (fun w => (rd_indexS (j := i) rfl rfl rfl Try.underlying45 ts123 rfl (by omega) _ rfl)) ?_
        refine GO_rdT rfl (wn_none rfl) rfl (fun w => (rd_field rfl rfl fa123_2 _ rfl)) ?_
        refine GO_rd rfl rfl (wn_none rfl) rfl hpS20 (fun w hp => (rd_load rfl rfl Try.underlying9 rfl (Sl.goE (hl.keep hp.mod) i (by first | omega | assumption | exact Nat.lt_succ_self _) (go_role _)))) ?_
        refine GO_of_GL rfl ?_
        refine GL_call (wn_none rfl) rfl rfl (gu_RevokeX gq rm pm cr cp RA PA mk ct R L (goAt l i).who (goAt l i).role (by have h1 := hG.ctl (goAt l i).who; omega) _ _ (hp.ownsT 4) hO hG) rfl ?_
        rintro _ w ⟨rfl, PA2, cp2, ct2, hO2, hG2, hk⟩
        have hp := hp.turnsT 4 hk
        have hpS21 := (hp.sub (.cons _ (.cons _ (.cons _ (.cons _ (.cons_cons _ (.cons_cons _ (.cons_cons _ (.cons_cons _ .slnil)))))))))
        refine GL_nil ⟨fun _ => hpS21, ?_⟩
        refine GO_rdT (v := .int .i64 (revK L (goAt l i).who (goAt l i).role)) rfl (wn_none rfl) rfl (fun w => (rd_assign rfl rfl)) ?_
        refine GO_nil ?_
        refine GW_seq ?_
        refine GW_region ?_
        refine GL_rd (v := .int .i64 (revK L (goAt l i).who (goAt l i).role)) (wn_none rfl) rfl (rd_move rfl rfl) ?_
        refine GL_rd (v := .int .i64 (revK L (goAt l i).who (goAt l i).role)) (wn_none rfl) rfl (rd_move rfl rfl) ?_
        refine GL_rd (wn_none rfl) rfl (rd_bin rfl rfl rfl bo_neq) ?_
        refine GL_nil ?_
        refine GW_cond rfl (fun hb14 => ?_) (fun hb14 => ?_)
        ·(try simp only [decide_eq_true_eq, decide_eq_false_iff_not, Bool.not_eq_true', Bool.not_eq_false', Bool.not_eq_eq_eq_not, Bool.not_true, Bool.not_false, Int.not_lt, Int.not_le] at hb14)
         first | exact absurd trivial hb14 | exact absurd rfl hb14
        ·(try simp only [decide_eq_true_eq, decide_eq_false_iff_not, Bool.not_eq_true', Bool.not_eq_false', Bool.not_eq_eq_eq_not, Bool.not_true, Bool.not_false, Int.not_lt, Int.not_le] at hb14)
         refine GW_skip ?_
         refine GW_region ?_
         refine GL_rd (v := .int .i64 (i : Int)) (wn_none rfl) rfl (rd_move rfl rfl) ?_
         refine GL_rd (wn_none rfl) rfl (rd_bin rfl rfl rfl (bo_add64 (by omega))) ?_
         refine GL_rd (v := .int _ _) (wn_none rfl) rfl (rd_assign rfl rfl) ?_
         refine GL_nil ?_
         have hp := (((((((((hp.front 7 rfl).front 7 rfl).front 7 rfl).front 7 rfl).front 7 rfl).front 7 rfl).front 7 rfl).front 7 rfl).take 8)
         exact ihL0 (i + 1, RA, cr, mk, PA2, cp2, ct2, _, _, R, (revX L (goAt l i).who (goAt l i).role)) _ _ (by simp only []; omega) ⟨_, slots5 rfl rfl rfl rfl rfl, hp, by omega, hO2, hG2, hRo, by omega, by have := revX_len L (goAt l i).who (goAt l i).role; omega⟩
       ·(try simp only [decide_eq_true_eq, decide_eq_false_iff_not, Bool.not_eq_true', Bool.not_eq_false', Bool.not_eq_eq_eq_not, Bool.not_true, Bool.not_false, Int.not_lt, Int.not_le] at hb13)
        refine GW_skip ?_
        refine GW_seq ?_
        refine GW_region ?_
        refine GL_rd (v := .int _ _) (wn_none rfl) rfl (rd_move rfl rfl) ?_
        refine GL_rd (v := .int _ _) (wn_none rfl) rfl (rd_move rfl rfl) ?_
        refine GL_rd (wn_none rfl) rfl (rd_bin rfl rfl rfl bo_neq) ?_
        refine GL_nil ?_
        refine GW_cond rfl (fun hb15 => ?_) (fun hb15 => ?_)
        ·(try simp only [decide_eq_true_eq, decide_eq_false_iff_not, Bool.not_eq_true', Bool.not_eq_false', Bool.not_eq_eq_eq_not, Bool.not_true, Bool.not_false, Int.not_lt, Int.not_le] at hb15)
         first | exact absurd trivial hb15 | exact absurd rfl hb15
        ·(try simp only [decide_eq_true_eq, decide_eq_false_iff_not, Bool.not_eq_true', Bool.not_eq_false', Bool.not_eq_eq_eq_not, Bool.not_true, Bool.not_false, Int.not_lt, Int.not_le] at hb15)
         refine GW_skip ?_
         refine GW_region ?_
         refine GL_rd (v := .int .i64 (i : Int)) (wn_none rfl) rfl (rd_move rfl rfl) ?_
         refine GL_rd (wn_none rfl) rfl (rd_bin rfl rfl rfl (bo_add64 (by omega))) ?_
         refine GL_rd (v := .int _ _) (wn_none rfl) rfl (rd_assign rfl rfl) ?_
         refine GL_nil ?_
         have hp := (((((((((hp.front 7 rfl).front 7 rfl).front 7 rfl).front 7 rfl).front 7 rfl).front 7 rfl).front 7 rfl).front 7 rfl).take 8)
         exact ihL0 (i + 1, RA, cr, mk, PA, cp, ct, _, _, R, L) _ _ (by simp only []; omega) ⟨_, slots5 rfl rfl rfl rfl rfl, hp, by omega, hO, hG, hRo, by omega, by omega⟩
   ·(try simp only [decide_eq_true_eq, decide_eq_false_iff_not, Bool.not_eq_true', Bool.not_eq_false', Bool.not_eq_eq_eq_not, Bool.not_true, Bool.not_false, Int.not_lt, Int.not_le] at hb2)
    refine GW_region ?_
    refine GL_rd (wn_none rfl) rfl (rd_bin rfl rfl rfl bo_eql) ?_
    refine GL_rd (v := .bool _) (wn_none rfl) rfl (rd_assign rfl rfl) ?_
    refine GL_nil ?_
    refine GW_cond rfl (fun hb16 => ?_) (fun hb16 => ?_)
    ·(try simp only [decide_eq_true_eq, decide_eq_false_iff_not, Bool.not_eq_true', Bool.not_eq_false', Bool.not_eq_eq_eq_not, Bool.not_true, Bool.not_false, Int.not_lt, Int.not_le] at hb16)
     refine GW_seq ?_
     have hov2 := (hlo _ (goAt_mem (i := i) (by omega)))
     obtain ⟨Ao, co, hoe⟩ := sl_shape hov2
     rw [hoe] at hov2
     refine GW_drawnK 16 (.one 0 true (.one 1 true (.one 2 true (.one 3 true (.one 4 true (.one 5 true (.one 6 true (.one 7 true (.one 8 true (.one 9 true (.one 10 true (.one 11 true (.one 12 false (.one 13 true (.one 14 true (.one 15 true (.one 16 false (.one 17 false .nil)))))))))))))))))) mixed (by kernel_rfl) hp (fun _ h => (h.sub (.cons_cons _ (.cons_cons _ (.cons_cons _ (.cons_cons _ (.cons_cons _ (.cons_cons _ (.cons _ (.cons_cons _ .slnil)))))))))) fun w hp => ?_
     have hpS22 := (hp.sub (.cons_cons _ (.cons_cons _ (.cons_cons _ (.cons_cons _ (.cons_cons _ (.cons_cons _ (.cons _ (.cons_cons _ .slnil)))))))))
     refine GO_rd rfl rfl (wn_none rfl) rfl hpS22 (fun w hp => (rd_loadC rfl rfl Try.underlying51 rfl ts51 (hp.get 5 rfl) (by first | (rw [bys_length]; first | exact a32_len _) | rfl | simp [bys_length, *]))) ?_
     refine GO_rdT (v := .slice _ _ _) rfl (wn_none rfl) rfl (fun w => (rd_move rfl rfl)) ?_
     refine GO_rdT (v := .int .i64 (i : Int)) rfl (wn_none rfl) rfl (fun w => (rd_move rfl rfl)) ?_
     refine GO_rdT rfl (wn_none rfl) rfl (fun w => (rd_indexS (j := i) rfl rfl rfl Try.underlying45 ts123 rfl (by omega) _ rfl)) ?_
     refine GO_rdT rfl (wn_none rfl) rfl (fun w => (rd_field rfl rfl fa123_2 _ rfl)) ?_
     refine GO_rd rfl rfl (wn_none rfl) rfl hpS22 (fun w hp => (rd_load rfl rfl Try.underlying9 rfl (Sl.goE (hl.keep hp.mod) i (by first | omega | assumption | exact Nat.lt_succ_self _) (go_role _)))) ?_
     refine GO_rdT (v := .slice _ _ _) rfl (wn_none rfl) rfl (fun w => (rd_move rfl rfl)) ?_
     refine GO_rdT (v := .int .i64 (i : Int)) rfl (wn_none rfl) rfl (fun w => (rd_move rfl rfl)) ?_
     refine GO_rdT rfl (wn_none rfl) rfl (fun w => (rd_indexS (j := i) rfl rfl rfl Try.underlying45 ts123 rfl (by omega) _ rfl)) ?_
     refine GO_rdT rfl (wn_none rfl) rfl (fun w => (rd_field rfl rfl fa123_3 _ rfl)) ?_
     refine GO_rd (v := .slice _ _ _) rfl rfl (wn_none rfl) rfl hpS22 (fun w hp => (rd_load rfl rfl Try.underlying36 rfl (Sl.goE (hl.keep hp.mod) i (by omega) ((go_ov _).trans (congrArg some hoe))))) ?_
     refine GO_rd rfl rfl (wn_none rfl) rfl hpS22 (fun w hp => (rd_buildS (L := (roC ((goAt l i).role, (.slice Ao (goAt l i).ops.length co), (goAt l i).ops))) rfl tz61 pl61 (by kernel_rfl))) ?_
     refine GO_of_GL rfl ?_
     refine GL_call (wn_none rfl) rfl rfl (ref_gDefine _ _ R L (goAt l i).role (.slice Ao (goAt l i).ops.length co) (goAt l i).ops _ (Sl.row (hp.get 6 rfl)) (Sl.row (hp.get 7 rfl)) hG.srt (fun x hx => (hRo w0 hlo x hx).keep hp.mod) (hov2.keep hp.mod) (by have h1 := (hb0.2 _ (goAt_mem (i := i) (by omega))); omega) (by omega)) rfl ?_
     rintro _ w ⟨rv2, rfl, hk⟩
     have hp := hp.renew 6 rfl hk
     obtain ⟨Arv2, crv2, rfl⟩ := row_shape (hp.get 6 rfl)
     have hpS23 := (hp.sub (.cons_cons _ (.cons_cons _ (.cons_cons _ (.cons_cons _ (.cons_cons _ (.cons_cons _ (.cons _ (.cons_cons _ .slnil)))))))))
     refine GL_nil ⟨fun _ => hpS23, ?_⟩
     refine GO_rdT (v := .tuple _) rfl (wn_none rfl) rfl (fun w => (rd_move rfl rfl)) ?_
     refine GO_rdT (v := .agg ⟨_⟩) rfl (wn_none rfl) rfl (fun w => (rd_extract rfl rfl rfl)) ?_
     refine GO_rdT (v := .int .i64 (defK R (goAt l i).role)) rfl (wn_none rfl) rfl (fun w => (rd_extract rfl rfl rfl)) ?_
     refine GO_of_GL rfl ?_
     refine GL_store (i := 5) (wn_none rfl) rfl rfl rfl rfl ts51 rfl rfl (oneC rfl (oneC rfl one0)) hp rfl (by first | exact Nat.le_of_ble_eq_true rfl | simp [bys_length, *]) rfl ?_
     intro w hp
     refine GL_nil ⟨fun h => absurd h (by decide), ?_⟩
     refine GO_of_GL rfl ?_
     refine GL_rd (v := .int .i64 (defK R (goAt l i).role)) (wn_none rfl) rfl (rd_assign rfl rfl) (GL_nil ⟨fun h => absurd h (by decide), ?_⟩)
     refine GO_nil ?_
     refine GW_drawnK 15 (.one 0 true (.one 1 true (.one 2 true (.one 3 true (.one 4 true (.one 5 true (.one 6 true (.one 7 true (.one 8 true (.one 9 true (.one 10 true (.one 11 false (.one 12 true (.one 13 false (.one 14 true .nil))))))))))))))) mixed (by kernel_rfl) hp (fun _ h => (h.sub (.cons _ (.cons _ (.cons _ (.cons _ (.cons_cons _ (.cons_cons _ (.cons_cons _ (.cons_cons _ .slnil)))))))))) fun w hp => ?_
     have hpS24 := (hp.sub (.cons _ (.cons _ (.cons _ (.cons _ (.cons_cons _ (.cons_cons _ (.cons_cons _ (.cons_cons _ .slnil)))))))))
     refine GO_rdT (v := .pointer (some ⟨gq, 0, none⟩)) rfl (wn_none rfl) rfl (fun w => (rd_move rfl rfl)) ?_
     refine GO_rdT (v := .slice _ _ _) rfl (wn_none rfl) rfl (fun w => (rd_move rfl rfl)) ?_
     refine GO_rdT (v := .int .i64 (i : Int)) rfl (wn_none rfl) rfl (fun w => (rd_move rfl rfl)) ?_
     refine GO_rdT rfl (wn_none rfl) rfl (fun w => (rd_indexS (j := i) rfl rfl rfl Try.underlying45 ts123 rfl (by omega) _ rfl)) ?_
     refine GO_rdT rfl (wn_none rfl) rfl (fun w => (rd_field rfl rfl fa123_2 _ rfl)) ?_
     refine GO_rd rfl rfl (wn_none rfl) rfl hpS24 (fun w hp => (rd_load rfl rfl Try.underlying9 rfl (Sl.goE (hl.keep hp.mod) i (by first | omega | assumption | exact Nat.lt_succ_self _) (go_role _)))) ?_
     refine GO_rdT (v := .slice _ _ _) rfl (wn_none rfl) rfl (fun w => (rd_move rfl rfl)) ?_
     refine GO_rdT (v := .int .i64 (i : Int)) rfl (wn_none rfl) rfl (fun w => (rd_move rfl rfl)) ?_
     refine GO_rdT rfl (wn_none rfl) rfl (fun w => (rd_indexS (j := i) rfl rfl rfl Try.underlying45 ts123 rfl (by omega) _ rfl)) ?_
     refine GO_rdT rfl (wn_none rfl) rfl (fun w => (rd_field rfl rfl fa123_3 _ rfl)) ?_
     refine GO_rd rfl rfl (wn_none rfl) rfl hpS24 (fun w hp => (rd_load rfl rfl Try.underlying36 rfl (Sl.goE (hl.keep hp.mod) i (by first | omega | assumption | exact Nat.lt_succ_self _) (go_ov _)))) ?_
     refine GO_of_GL rfl ?_
     refine GL_call (wn_none rfl) rfl rfl (gu_Of _ _ (goAt l i).ops _ ((hlo _ (goAt_mem (i := i) (by omega))).keep hp.mod)) rfl ?_
     rintro _ w ⟨rfl, hk⟩
     have hp := hp.comp hk
     have hpS25 := (hp.sub (.cons _ (.cons _ (.cons _ (.cons _ (.cons_cons _ (.cons_cons _ (.cons_cons _ (.cons_cons _ .slnil)))))))))
     refine GL_nil ⟨fun _ => hpS25, ?_⟩
     refine GO_rd rfl rfl (wn_none rfl) rfl hpS25 (fun w hp => (rd_buildS (L := (rolC (goAt l i).role (ofBt (goAt l i).ops))) rfl tz59 pl59 (by kernel_rfl))) ?_
     refine GO_of_GL rfl ?_
     refine GL_call (wn_none rfl) rfl rfl (gu_DefineX gq rm pm cr cp RA PA mk ct R L (goAt l i).role (.slice Ao (goAt l i).ops.length co) (goAt l i).ops (by have h1 := (hb0.2 _ (goAt_mem (i := i) (by omega))); omega) _ _ (hp.ownsT 4) hO hG) rfl ?_
     rintro _ w ⟨rfl, RA2, cr2, mk2, hO2, hG2, hk⟩
     have hp := hp.turnsT 4 hk
     have hpS26 := (hp.sub (.cons _ (.cons _ (.cons _ (.cons _ (.cons_cons _ (.cons_cons _ (.cons_cons _ (.cons_cons _ .slnil)))))))))
     refine GL_nil ⟨fun _ => hpS26, ?_⟩
     refine GO_rdT (v := .int .i64 (defK R (goAt l i).role)) rfl (wn_none rfl) rfl (fun w => (rd_assign rfl rfl)) ?_
     refine GO_nil ?_
     refine GW_seq ?_
     refine GW_region ?_
     refine GL_rd (v := .int .i64 (defK R (goAt l i).role)) (wn_none rfl) rfl (rd_move rfl rfl) ?_
     refine GL_rd (v := .int .i64 (defK R (goAt l i).role)) (wn_none rfl) rfl (rd_move rfl rfl) ?_
     refine GL_rd (wn_none rfl) rfl (rd_bin rfl rfl rfl bo_neq) ?_
     refine GL_nil ?_
     refine GW_cond rfl (fun hb17 => ?_) (fun hb17 => ?_)
     ·(try simp only [decide_eq_true_eq, decide_eq_false_iff_not, Bool.not_eq_true', Bool.not_eq_false', Bool.not_eq_eq_eq_not, Bool.not_true, Bool.not_false, Int.not_lt, Int.not_le] at hb17)
      first | exact absurd trivial hb17 | exact absurd rfl hb17
     ·(try simp only [decide_eq_true_eq, decide_eq_false_iff_not, Bool.not_eq_true', Bool.not_eq_false', Bool.not_eq_eq_eq_not, Bool.not_true, Bool.not_false, Int.not_lt, Int.not_le] at hb17)
      refine GW_skip ?_
      refine GW_region ?_
      refine GL_rd (v := .int .i64 (i : Int)) (wn_none rfl) rfl (rd_move rfl rfl) ?_
      refine GL_rd (wn_none rfl) rfl (rd_bin rfl rfl rfl (bo_add64 (by omega))) ?_
      refine GL_rd (v := .int _ _) (wn_none rfl) rfl (rd_assign rfl rfl) ?_
      refine GL_nil ?_
      have hp := (((((((((hp.front 7 rfl).front 7 rfl).front 7 rfl).front 7 rfl).front 7 rfl).front 7 rfl).front 7 rfl).front 7 rfl).take 8)
      exact ihL0 (i + 1, RA2, cr2, mk2, PA, cp, ct, _, _, (defX R ((goAt l i).role, (.slice Ao (goAt l i).ops.length co), (goAt l i).ops)), L) _ _ (by simp only []; omega) ⟨_, slots5 rfl rfl rfl rfl rfl, hp, by omega, hO2, hG2, fun wz hz => okRo_def (hRo wz hz) (hoe ▸ hz _ (goAt_mem (by omega))), by have := defX_len R ((goAt l i).role, (.slice Ao (goAt l i).ops.length co), (goAt l i).ops) hG.srt; omega, by omega⟩
    ·(try simp only [decide_eq_true_eq, decide_eq_false_iff_not, Bool.not_eq_true', Bool.not_eq_false', Bool.not_eq_eq_eq_not, Bool.not_true, Bool.not_false, Int.not_lt, Int.not_le] at hb16)
     refine GW_seq ?_
     refine GW_seq ?_
     refine GW_region ?_
     refine GL_rd (wn_none rfl) rfl (rd_bin rfl rfl rfl bo_eql) ?_
     refine GL_rd (v := .bool _) (wn_none rfl) rfl (rd_assign rfl rfl) ?_
     refine GL_nil ?_
     refine GW_cond rfl (fun hb18 => ?_) (fun hb18 => ?_)
     ·(try simp only [decide_eq_true_eq, decide_eq_false_iff_not, Bool.not_eq_true', Bool.not_eq_false', Bool.not_eq_eq_eq_not, Bool.not_true, Bool.not_false, Int.not_lt, Int.not_le] at hb18)
      refine GW_skip ?_
      refine GW_cond rfl (fun hb19 => ?_) (fun hb19 => ?_)
      ·(try simp only [decide_eq_true_eq, decide_eq_false_iff_not, Bool.not_eq_true', Bool.not_eq_false', Bool.not_eq_eq_eq_not, Bool.not_true, Bool.not_false, Int.not_lt, Int.not_le] at hb19)
       refine GW_seq ?_
       refine GW_drawnK 15 (.one 0 true (.one 1 true (.one 2 true (.one 3 true (.one 4 true (.one 5 true (.one 6 true (.one 7 true (.one 8 true (.one 9 true (.one 10 true (.one 11 false (.one 12 true (.one 13 true (.one 14 true (.one 15 false (.one 16 false .nil))))))))))))))))) mixed (by kernel_rfl) hp (fun _ h => (h.sub (.cons_cons _ (.cons_cons _ (.cons_cons _ (.cons_cons _ (.cons_cons _ (.cons_cons _ (.cons_cons _ (.cons _ .slnil)))))))))) fun w hp => ?_
       have hpS27 := (hp.sub (.cons_cons _ (.cons_cons _ (.cons_cons _ (.cons_cons _ (.cons_cons _ (.cons_cons _ (.cons_cons _ (.cons _ .slnil)))))))))
       refine GO_rd rfl rfl (wn_none rfl) rfl hpS27 (fun w hp => (rd_loadC rfl rfl Try.underlying51 rfl ts51 (hp.get 5 rfl) (by first | (rw [bys_length]; first | exact a32_len _) | rfl | simp [bys_length, *]))) ?_
       refine GO_rdT (v := .slice _ _ _) rfl (wn_none rfl) rfl (fun w => (rd_move rfl rfl)) ?_
       refine GO_rdT (v := .int .i64 (i : Int)) rfl (wn_none rfl) rfl (fun w => (rd_move rfl rfl)) ?_
       refine GO_rdT rfl (wn_none rfl) rfl (fun w => (rd_indexS (j := i) rfl rfl rfl Try.underlying45 ts123 rfl (by omega) _ rfl)) ?_
       refine GO_rdT rfl (wn_none rfl) rfl (fun w => (rd_field rfl rfl fa123_1 _ rfl)) ?_
       refine GO_rd rfl rfl (wn_none rfl) rfl hpS27 (fun w hp => (rd_load rfl rfl Try.underlying9 rfl (Sl.goE (hl.keep hp.mod) i (by first | omega | assumption | exact Nat.lt_succ_self _) (go_who _)))) ?_
       refine GO_rdT (v := .slice _ _ _) rfl (wn_none rfl) rfl (fun w => (rd_move rfl rfl)) ?_
       refine GO_rdT (v := .int .i64 (i : Int)) rfl (wn_none rfl) rfl (fun w => (rd_move rfl rfl)) ?_
       refine GO_rdT rfl (wn_none rfl) rfl (fun w => (rd_indexS (j := i) rfl rfl rfl Try.underlying45 ts123 rfl (by omega) _ rfl)) ?_
       refine GO_rdT rfl (wn_none rfl) rfl (fun w => (rd_field rfl rfl fa123_2 _ rfl)) ?_
       refine GO_rd rfl rfl (wn_none rfl) rfl hpS27 (fun w hp => (rd_load rfl rfl Try.underlying9 rfl (Sl.goE (hl.keep hp.mod) i (by first | omega | assumption | exact Nat.lt_succ_self _) (go_role _)))) ?_
       refine GO_of_GL rfl ?_
       refine GL_call (wn_none rfl) rfl rfl (ref_gGrant _ _ R L (goAt l i).who (goAt l i).role _ (Sl.row (hp.get 6 rfl)) (Sl.row (hp.get 7 rfl)) (by have h1 := (hb0.2 _ (goAt_mem (i := i) (by omega))); omega) (by omega)) rfl ?_
       rintro _ w ⟨lv2, rfl, hk⟩
       have hp := hp.renew 7 rfl hk
       obtain ⟨Alv2, clv2, rfl⟩ := row_shape (hp.get 7 rfl)
       have hpS28 := (hp.sub (.cons_cons _ (.cons_cons _ (.cons_cons _ (.cons_cons _ (.cons_cons _ (.cons_cons _ (.cons_cons _ (.cons _ .slnil)))))))))
       refine GL_nil ⟨fun _ => hpS28, ?_⟩
       refine GO_rdT (v := .tuple _) rfl (wn_none rfl) rfl (fun w => (rd_move rfl rfl)) ?_
       refine GO_rdT (v := .agg ⟨_⟩) rfl (wn_none rfl) rfl (fun w => (rd_extract rfl rfl rfl)) ?_
       refine GO_rdT (v := .int .i64 (graK R L (goAt l i).who (goAt l i).role)) rfl (wn_none rfl) rfl (fun w => (rd_extract rfl rfl rfl)) ?_
       refine GO_of_GL rfl ?_
       refine GL_store (i := 5) (wn_none rfl) rfl rfl rfl rfl ts51 rfl rfl (oneC rfl (oneC rfl one0)) hp rfl (by first | exact Nat.le_of_ble_eq_true rfl | simp [bys_length, *]) rfl ?_
       intro w hp
       refine GL_nil ⟨fun h => absurd h (by decide), ?_⟩
       refine GO_of_GL rfl ?_
       refine GL_rd (v := .int .i64 (graK R L (goAt l i).who (goAt l i).role)) (wn_none rfl) rfl (rd_assign rfl rfl) (GL_nil ⟨fun h => absurd h (by decide), ?_⟩)
       refine GO_nil ?_
       refine GW_drawnK 13 (.one 0 true (.one 1 true (.one 2 true (.one 3 true (.one 4 true (.one 5 true (.one 6 true (.one 7 true (.one 8 true (.one 9 true (.one 10 true (.one 11 false (.one 12 true .nil))))))))))))) mixed (by kernel_rfl) hp (fun _ h => (h.sub (.cons _ (.cons _ (.cons _ (.cons _ (.cons_cons _ (.cons_cons _ (.cons_cons _ (.cons_cons _ .slnil)))))))))) fun w hp => ?_
       have hpS29 := (hp.sub (.cons _ (.cons _ (.cons _ (.cons _ (.cons_cons _ (.cons_cons _ (.cons_cons _ (.cons_cons _ .slnil)))))))))
       refine GO_rdT (v := .pointer (some ⟨gq, 0, none⟩)) rfl (wn_none rfl) rfl (fun w => (rd_move rfl rfl)) ?_
       refine GO_rdT (v := .slice _ _ _) rfl (wn_none rfl) rfl (fun w => (rd_move rfl rfl)) ?_
       refine GO_rdT (v := .int .i64 (i : Int)) rfl (wn_none rfl) rfl (fun w => (rd_move rfl rfl)) ?_
       refine GO_rdT rfl (wn_none rfl) rfl (fun w => (rd_indexS (j := i) rfl rfl rfl Try.underlying45 ts123 rfl (by omega) _ rfl)) ?_
       refine GO_rdT rfl (wn_none rfl) rfl (fun w => (rd_field rfl rfl fa123_1 _ rfl)) ?_
       refine GO_rd rfl rfl (wn_none rfl) rfl hpS29 (fun w hp => (rd_load rfl rfl Try.underlying9 rfl (Sl.goE (hl.keep hp.mod) i (by first | omega | assumption | exact Nat.lt_succ_self _) (go_who _)))) ?_
       refine GO_rdT (v := .slice _ _ _) rfl (wn_none rfl) rfl (fun w => (rd_move rfl rfl)) ?_
       refine GO_rdT (v := .int .i64 (i : Int)) rfl (wn_none rfl) rfl (fun w => (rd_move rfl rfl)) ?_
       refine GO_rdT rfl (wn_none rfl) rfl (fun w => (rd_indexS (j := i) rfl rfl rfl Try.underlying45 ts123 rfl (by omega) _ rfl)) ?_
       refine GO_rdT rfl (wn_none rfl) rfl (fun w => (rd_field rfl rfl fa123_2 _ rfl)) ?_
       refine GO_rd rfl rfl (wn_none rfl) rfl hpS29 (fun w hp => (rd_load rfl rfl Try.underlying9 rfl (Sl.goE (hl.keep hp.mod) i (by first | omega | assumption | exact Nat.lt_succ_self _) (go_role _)))) ?_
       refine GO_of_GL rfl ?_
       refine GL_call (wn_none rfl) rfl rfl (gu_GrantX gq rm pm cr cp RA PA mk ct R L (goAt l i).who (goAt l i).role (by have h1 := (hb0.2 _ (goAt_mem (i := i) (by omega))); omega) (by have h1 := hG.ctl (goAt l i).who; omega) _ _ (hp.ownsT 4) hO hG) rfl ?_
       rintro _ w ⟨rfl, PA2, cp2, ct2, hO2, hG2, hk⟩
       have hp := hp.turnsT 4 hk
       have hpS30 := (hp.sub (.cons _ (.cons _ (.cons _ (.cons _ (.cons_cons _ (.cons_cons _ (.cons_cons _ (.cons_cons _ .slnil)))))))))
       refine GL_nil ⟨fun _ => hpS30, ?_⟩
       refine GO_rdT (v := .int .i64 (graK R L (goAt l i).who (goAt l i).role)) rfl (wn_none rfl) rfl (fun w => (rd_assign rfl rfl)) ?_
       refine GO_nil ?_
       refine GW_seq ?_
       refine GW_region ?_
       refine GL_rd (v := .int .i64 (graK R L (goAt l i).who (goAt l i).role)) (wn_none rfl) rfl (rd_move rfl rfl) ?_
       refine GL_rd (v := .int .i64 (graK R L (goAt l i).who (goAt l i).role)) (wn_none rfl) rfl (rd_move rfl rfl) ?_
       refine GL_rd (wn_none rfl) rfl (rd_bin rfl rfl rfl bo_neq) ?_
       refine GL_nil ?_
       refine GW_cond rfl (fun hb20 => ?_) (fun hb20 => ?_)
       ·(try simp only [decide_eq_true_eq, decide_eq_false_iff_not, Bool.not_eq_true', Bool.not_eq_false', Bool.not_eq_eq_eq_not, Bool.not_true, Bool.not_false, Int.not_lt, Int.not_le] at hb20)
        first | exact absurd trivial hb20 | exact absurd rfl hb20
       ·(try simp only [decide_eq_true_eq, decide_eq_false_iff_not, Bool.not_eq_true', Bool.not_eq_false', Bool.not_eq_eq_eq_not, Bool.not_true, Bool.not_false, Int.not_lt, Int.not_le] at hb20)
        refine GW_skip ?_
        refine GW_region ?_
        refine GL_rd (v := .int .i64 (i : Int)) (wn_none rfl) rfl (rd_move rfl rfl) ?_
        refine GL_rd (wn_none rfl) rfl (rd_bin rfl rfl rfl (bo_add64 (by omega))) ?_
        refine GL_rd (v := .int _ _) (wn_none rfl) rfl (rd_assign rfl rfl) ?_
        refine GL_nil ?_
        have hp := (((((((((hp.front 7 rfl).front 7 rfl).front 7 rfl).front 7 rfl).front 7 rfl).front 7 rfl).front 7 rfl).front 7 rfl).take 8)
        exact ihL0 (i + 1, RA, cr, mk, PA2, cp2, ct2, _, _, R, (graX R L (goAt l i).who (goAt l i).role)) _ _ (by simp only []; omega) ⟨_, slots5 rfl rfl rfl rfl rfl, hp, by omega, hO2, hG2, hRo, by omega, by have := graX_len R L (goAt l i).who (goAt l i).role; omega⟩
      ·(try simp only [decide_eq_true_eq, decide_eq_false_iff_not, Bool.not_eq_true', Bool.not_eq_false', Bool.not_eq_eq_eq_not, Bool.not_true, Bool.not_false, Int.not_lt, Int.not_le] at hb19)
       refine GW_seq ?_
       refine GW_region ?_
       refine GL_rd (wn_none rfl) rfl (rd_bin rfl rfl rfl bo_eql) ?_
       refine GL_rd (v := .bool _) (wn_none rfl) rfl (rd_assign rfl rfl) ?_
       refine GL_nil ?_
       refine GW_cond rfl (fun hb21 => ?_) (fun hb21 => ?_)
       ·(try simp only [decide_eq_true_eq, decide_eq_false_iff_not, Bool.not_eq_true', Bool.not_eq_false', Bool.not_eq_eq_eq_not, Bool.not_true, Bool.not_false, Int.not_lt, Int.not_le] at hb21)
        refine GW_seq ?_
        refine GW_drawnK 15 (.one 0 true (.one 1 true (.one 2 true (.one 3 true (.one 4 true (.one 5 true (.one 6 true (.one 7 true (.one 8 true (.one 9 true (.one 10 true (.one 11 false (.one 12 true (.one 13 true (.one 14 true (.one 15 false (.one 16 false .nil))))))))))))))))) mixed (by kernel_rfl) hp (fun _ h => (h.sub (.cons_cons _ (.cons_cons _ (.cons_cons _ (.cons_cons _ (.cons_cons _ (.cons_cons _ (.cons_cons _ (.cons _ .slnil)))))))))) fun w hp => ?_
        have hpS31 := (hp.sub (.cons_cons _ (.cons_cons _ (.cons_cons _ (.cons_cons _ (.cons_cons _ (.cons_cons _ (.cons_cons _ (.cons _ .slnil)))))))))
        refine GO_rd rfl rfl (wn_none rfl) rfl hpS31 (fun w hp => (rd_loadC rfl rfl Try.underlying51 rfl ts51 (hp.get 5 rfl) (by first | (rw [bys_length]; first | exact a32_len _) | rfl | simp [bys_length, *]))) ?_
        refine GO_rdT (v := .slice _ _ _) rfl (wn_none rfl) rfl (fun w => (rd_move rfl rfl)) ?_
        refine GO_rdT (v := .int .i64 (i : Int)) rfl (wn_none rfl) rfl (fun w => (rd_move rfl rfl)) ?_
        refine GO_rdT rfl (wn_none rfl) rfl (fun w => (rd_indexS (j := i) rfl rfl rfl Try.underlying45 ts123 rfl (by omega) _ rfl)) ?_
        refine GO_rdT rfl (wn_none rfl) rfl (fun w => (rd_field rfl rfl fa123_1 _ rfl)) ?_
        refine GO_rd rfl rfl (wn_none rfl) rfl hpS31 (fun w hp => (rd_load rfl rfl Try.underlying9 rfl (Sl.goE (hl.keep hp.mod) i (by first | omega | assumption | exact Nat.lt_succ_self _) (go_who _)))) ?_
        refine GO_rdT (v := .slice _ _ _) rfl (wn_none rfl) rfl (fun w => (rd_move rfl rfl)) ?_
        refine GO_rdT (v := .int .i64 (i : Int)) rfl (wn_none rfl) rfl (fun w => (rd_move rfl rfl)) ?_
        refine GO_rdT rfl (wn_none rfl) rfl (fun w => (rd_indexS (j := i) rfl rfl rfl Try.underlying45 ts123 rfl (by omega) _ rfl)) ?_
        refine GO_rdT rfl (wn_none rfl) rfl (fun w => (rd_field rfl rfl fa123_2 _ rfl)) ?_
        refine GO_rd rfl rfl (wn_none rfl) rfl hpS31 (fun w hp => (rd_load rfl rfl Try.underlying9 rfl (Sl.goE (hl.keep hp.mod) i (by first | omega | assumption | exact Nat.lt_succ_self _) (go_role _)))) ?_
        refine GO_of_GL rfl ?_
        refine GL_call (wn_none rfl) rfl rfl (ref_gRevoke _ _ R L (goAt l i).who (goAt l i).role _ (Sl.row (hp.get 6 rfl)) (Sl.row (hp.get 7 rfl)) (by omega)) rfl ?_
        rintro _ w ⟨lv2, rfl, hk⟩
        have hp := hp.renew 7 rfl hk
        obtain ⟨Alv2, clv2, rfl⟩ := row_shape (hp.get 7 rfl)
        have hpS32 := (hp.sub (.cons_cons _ (.cons_cons _ (.cons_cons _ (.cons_cons _ (.cons_cons _ (.cons_cons _ (.cons_cons _ (.cons _ .slnil)))))))))
        refine GL_nil ⟨fun _ => hpS32, ?_⟩
        refine GO_rdT (v := .tuple _) rfl (wn_none rfl) rfl (fun w => (rd_move rfl rfl)) ?_
        refine GO_rdT (v := .agg ⟨_⟩) rfl (wn_none rfl) rfl (fun w => (rd_extract rfl rfl rfl)) ?_
        refine GO_rdT (v := .int .i64 (revK L (goAt l i).who (goAt l i).role)) rfl (wn_none rfl) rfl (fun w => (rd_extract rfl rfl rfl)) ?_
        refine GO_of_GL rfl ?_
        refine GL_store (i := 5) (wn_none rfl) rfl rfl rfl rfl ts51 rfl rfl (oneC rfl (oneC rfl one0)) hp rfl (by first | exact Nat.le_of_ble_eq_true rfl | simp [bys_length, *]) rfl ?_
        intro w hp
        refine GL_nil ⟨fun h => absurd h (by decide), ?_⟩
        refine GO_of_GL rfl ?_
        refine GL_rd (v := .int .i64 (revK L (goAt l i).who (goAt l i).role)) (wn_none rfl) rfl (rd_assign rfl rfl) (GL_nil ⟨fun h => absurd h (by decide), ?_⟩)
        refine GO_nil ?_
        refine GW_drawnK 13 (.one 0 true (.one 1 true (.one 2 true (.one 3 true (.one 4 true (.one 5 true (.one 6 true (.one 7 true (.one 8 true (.one 9 true (.one 10 true (.one 11 false (.one 12 true .nil))))))))))))) mixed (by kernel_rfl) hp (fun _ h => (h.sub (.cons _ (.cons _ (.cons _ (.cons _ (.cons_cons _ (.cons_cons _ (.cons_cons _ (.cons_cons _ .slnil)))))))))) fun w hp => ?_
        have hpS33 := (hp.sub (.cons _ (.cons _ (.cons _ (.cons _ (.cons_cons _ (.cons_cons _ (.cons_cons _ (.cons_cons _ .slnil)))))))))
        refine GO_rdT (v := .pointer (some ⟨gq, 0, none⟩)) rfl (wn_none rfl) rfl (fun w => (rd_move rfl rfl)) ?_
        refine GO_rdT (v := .slice _ _ _) rfl (wn_none rfl) rfl (fun w => (rd_move rfl rfl)) ?_
        refine GO_rdT (v := .int .i64 (i : Int)) rfl (wn_none rfl) rfl (fun w => (rd_move rfl rfl)) ?_
        refine GO_rdT rfl (wn_none rfl) rfl (fun w => (rd_indexS (j := i) rfl rfl rfl Try.underlying45 ts123 rfl (by omega) _ rfl)) ?_
        refine GO_rdT rfl (wn_none rfl) rfl (fun w => (rd_field rfl rfl fa123_1 _ rfl)) ?_
        refine GO_rd rfl rfl (wn_none rfl) rfl hpS33 (fun w hp => (rd_load rfl rfl Try.underlying9 rfl (Sl.goE (hl.keep hp.mod) i (by first | omega | assumption | exact Nat.lt_succ_self _) (go_who _)))) ?_
        refine GO_rdT (v := .slice _ _ _) rfl (wn_none rfl) rfl (fun w => (rd_move rfl rfl)) ?_
        refine GO_rdT (v := .int .i64 (i : Int)) rfl (wn_none rfl) rfl (fun w => (rd_move rfl rfl)) ?_
        refine GO_rdT rfl (wn_none rfl) rfl (fun w => (rd_indexS (j := i) rfl rfl rfl Try.underlying45 ts123 rfl (by omega) _ rfl)) ?_
        refine GO_rdT rfl (wn_none rfl) rfl (fun w => (rd_field rfl rfl fa123_2 _ rfl)) ?_
        refine GO_rd rfl rfl (wn_none rfl) rfl hpS33 (fun w hp => (rd_load rfl rfl Try.underlying9 rfl (Sl.goE (hl.keep hp.mod) i (by first | omega | assumption | exact Nat.lt_succ_self _) (go_role _)))) ?_
        refine GO_of_GL rfl ?_
        refine GL_call (wn_none rfl) rfl rfl (gu_RevokeX gq rm pm cr cp RA PA mk ct R L (goAt l i).who (goAt l i).role (by have h1 := hG.ctl (goAt l i).who; omega) _ _ (hp.ownsT 4) hO hG) rfl ?_
        rintro _ w ⟨rfl, PA2, cp2, ct2, hO2, hG2, hk⟩
        have hp := hp.turnsT 4 hk
        have hpS34 := (hp.sub (.cons _ (.cons _ (.cons _ (.cons _ (.cons_cons _ (.cons_cons _ (.cons_cons _ (.cons_cons _ .slnil)))))))))
        refine GL_nil ⟨fun _ => hpS34, ?_⟩
        refine GO_rdT (v := .int .i64 (revK L (goAt l i).who (goAt l i).role)) rfl (wn_none rfl) rfl (fun w => (rd_assign rfl rfl)) ?_
        refine GO_nil ?_
        refine GW_seq ?_
        refine GW_region ?_
        refine GL_rd (v := .int .i64 (revK L (goAt l i).who (goAt l i).role)) (wn_none rfl) rfl (rd_move rfl rfl) ?_
        refine GL_rd (v := .int .i64 (revK L (goAt l i).who (goAt l i).role)) (wn_none rfl) rfl (rd_move rfl rfl) ?_
        refine GL_rd (wn_none rfl) rfl (rd_bin rfl rfl rfl bo_neq) ?_
        refine GL_nil ?_
        refine GW_cond rfl (fun hb22 => ?_) (fun hb22 => ?_)
        ·(try simp only [decide_eq_true_eq, decide_eq_false_iff_not, Bool.not_eq_true', Bool.not_eq_false', Bool.not_eq_eq_eq_not, Bool.not_true, Bool.not_false, Int.not_lt, Int.not_le] at hb22)
         first | exact absurd trivial hb22 | exact absurd rfl hb22
        ·(try simp only [decide_eq_true_eq, decide_eq_false_iff_not, Bool.not_eq_true', Bool.not_eq_false', Bool.not_eq_eq_eq_not, Bool.not_true, Bool.not_false, Int.not_lt, Int.not_le] at hb22)
         refine GW_skip ?_
         refine GW_region ?_
         refine GL_rd (v := .int .i64 (i : Int)) (wn_none rfl) rfl (rd_move rfl rfl) ?_
         refine GL_rd (wn_none rfl) rfl (rd_bin rfl rfl rfl (bo_add64 (by omega))) ?_
         refine GL_rd (v := .int _ _) (wn_none rfl) rfl (rd_assign rfl rfl) ?_
         refine GL_nil ?_
         have hp := (((((((((hp.front 7 rfl).front 7 rfl).front 7 rfl).front 7 rfl).front 7 rfl).front 7 rfl).front 7 rfl).front 7 rfl).take 8)
         exact ihL0 (i + 1, RA, cr, mk, PA2, cp2, ct2, _, _, R, (revX L (goAt l i).who (goAt l i).role)) _ _ (by simp only []; omega) ⟨_, slots5 rfl rfl rfl rfl rfl, hp, by omega, hO2, hG2, hRo, by omega, by have := revX_len L (goAt l i).who (goAt l i).role; omega⟩
       ·(try simp only [decide_eq_true_eq, decide_eq_false_iff_not, Bool.not_eq_true', Bool.not_eq_false', Bool.not_eq_eq_eq_not, Bool.not_true, Bool.not_false, Int.not_lt, Int.not_le] at hb21)
        refine GW_skip ?_
        refine GW_seq ?_
        refine GW_region ?_
        refine GL_rd (v := .int _ _) (wn_none rfl) rfl (rd_move rfl rfl) ?_
        refine GL_rd (v := .int _ _) (wn_none rfl) rfl (rd_move rfl rfl) ?_
        refine GL_rd (wn_none rfl) rfl (rd_bin rfl rfl rfl bo_neq) ?_
        refine GL_nil ?_
        refine GW_cond rfl (fun hb23 => ?_) (fun hb23 => ?_)
        ·(try simp only [decide_eq_true_eq, decide_eq_false_iff_not, Bool.not_eq_true', Bool.not_eq_false', Bool.not_eq_eq_eq_not, Bool.not_true, Bool.not_false, Int.not_lt, Int.not_le] at hb23)
         first | exact absurd trivial hb23 | exact absurd rfl hb23
        ·(try simp only [decide_eq_true_eq, decide_eq_false_iff_not, Bool.not_eq_true', Bool.not_eq_false', Bool.not_eq_eq_eq_not, Bool.not_true, Bool.not_false, Int.not_lt, Int.not_le] at hb23)
         refine GW_skip ?_
         refine GW_region ?_
         refine GL_rd (v := .int .i64 (i : Int)) (wn_none rfl) rfl (rd_move rfl rfl) ?_
         refine GL_rd (wn_none rfl) rfl (rd_bin rfl rfl rfl (bo_add64 (by omega))) ?_
         refine GL_rd (v := .int _ _) (wn_none rfl) rfl (rd_assign rfl rfl) ?_
         refine GL_nil ?_
         have hp := (((((((((hp.front 7 rfl).front 7 rfl).front 7 rfl).front 7 rfl).front 7 rfl).front 7 rfl).front 7 rfl).front 7 rfl).take 8)
         exact ihL0 (i + 1, RA, cr, mk, PA, cp, ct, _, _, R, L) _ _ (by simp only []; omega) ⟨_, slots5 rfl rfl rfl rfl rfl, hp, by omega, hO, hG, hRo, by omega, by omega⟩
     ·(try simp only [decide_eq_true_eq, decide_eq_false_iff_not, Bool.not_eq_true', Bool.not_eq_false', Bool.not_eq_eq_eq_not, Bool.not_true, Bool.not_false, Int.not_lt, Int.not_le] at hb18)
      refine GW_region ?_
      refine GL_rd (wn_none rfl) rfl (rd_bin rfl rfl rfl bo_eql) ?_
      refine GL_rd (v := .bool _) (wn_none rfl) rfl (rd_assign rfl rfl) ?_
      refine GL_nil ?_
      refine GW_cond rfl (fun hb24 => ?_) (fun hb24 => ?_)
      ·(try simp only [decide_eq_true_eq, decide_eq_false_iff_not, Bool.not_eq_true', Bool.not_eq_false', Bool.not_eq_eq_eq_not, Bool.not_true, Bool.not_false, Int.not_lt, Int.not_le] at hb24)
       refine GW_seq ?_
       refine GW_drawnK 15 (.one 0 true (.one 1 true (.one 2 true (.one 3 true (.one 4 true (.one 5 true (.one 6 true (.one 7 true (.one 8 true (.one 9 true (.one 10 true (.one 11 false (.one 12 true (.one 13 true (.one 14 true (.one 15 false (.one 16 false .nil))))))))))))))))) mixed (by kernel_rfl) hp (fun _ h => (h.sub (.cons_cons _ (.cons_cons _ (.cons_cons _ (.cons_cons _ (.cons_cons _ (.cons_cons _ (.cons_cons _ (.cons _ .slnil)))))))))) fun w hp => ?_
       have hpS35 := (hp.sub (.cons_cons _ (.cons_cons _ (.cons_cons _ (.cons_cons _ (.cons_cons _ (.cons_cons _ (.cons_cons _ (.cons _ .slnil)))))))))
       refine GO_rd rfl rfl (wn_none rfl) rfl hpS35 (fun w hp => (rd_loadC rfl rfl Try.underlying51 rfl ts51 (hp.get 5 rfl) (by first | (rw [bys_length]; first | exact a32_len _) | rfl | simp [bys_length, *]))) ?_
       refine GO_rdT (v := .slice _ _ _) rfl (wn_none rfl) rfl (fun w => (rd_move rfl rfl)) ?_
       refine GO_rdT (v := .int .i64 (i : Int)) rfl (wn_none rfl) rfl (fun w => (rd_move rfl rfl)) ?_
       refine GO_rdT rfl (wn_none rfl) rfl (fun w => (rd_indexS (j := i) rfl rfl rfl Try.underlying45 ts123 rfl (by omega) _ rfl)) ?_
       refine GO_rdT rfl (wn_none rfl) rfl (fun w => (rd_field rfl rfl fa123_1 _ rfl)) ?_
       refine GO_rd rfl rfl (wn_none rfl) rfl hpS35 (fun w hp => (rd_load rfl rfl Try.underlying9 rfl (Sl.goE (hl.keep hp.mod) i (by first | omega | assumption | exact Nat.lt_succ_self _) (go_who _)))) ?_
       refine GO_rdT (v := .slice _ _ _) rfl (wn_none rfl) rfl (fun w => (rd_move rfl rfl)) ?_
       refine GO_rdT (v := .int .i64 (i : Int)) rfl (wn_none rfl) rfl (fun w => (rd_move rfl rfl)) ?_
       refine GO_rdT rfl (wn_none rfl) rfl (fun w => (rd_indexS (j := i) rfl rfl rfl Try.underlying45 ts123 rfl (by omega) _ rfl)) ?_
       refine GO_rdT rfl (wn_none rfl) rfl (fun w => (rd_field rfl rfl fa123_2 _ rfl)) ?_
       refine GO_rd rfl rfl (wn_none rfl) rfl hpS35 (fun w hp => (rd_load rfl rfl Try.underlying9 rfl (Sl.goE (hl.keep hp.mod) i (by first | omega | assumption | exact Nat.lt_succ_self _) (go_role _)))) ?_
       refine GO_of_GL rfl ?_
       refine GL_call (wn_none rfl) rfl rfl (ref_gGrant _ _ R L (goAt l i).who (goAt l i).role _ (Sl.row (hp.get 6 rfl)) (Sl.row (hp.get 7 rfl)) (by have h1 := (hb0.2 _ (goAt_mem (i := i) (by omega))); omega) (by omega)) rfl ?_
       rintro _ w ⟨lv2, rfl, hk⟩
       have hp := hp.renew 7 rfl hk
       obtain ⟨Alv2, clv2, rfl⟩ := row_shape (hp.get 7 rfl)
       have hpS36 := (hp.sub (.cons_cons _ (.cons_cons _ (.cons_cons _ (.cons_cons _ (.cons_cons _ (.cons_cons _ (.cons_cons _ (.cons _ .slnil)))))))))
       refine GL_nil ⟨fun _ => hpS36, ?_⟩
       refine GO_rdT (v := .tuple _) rfl (wn_none rfl) rfl (fun w => (rd_move rfl rfl)) ?_
       refine GO_rdT (v := .agg ⟨_⟩) rfl (wn_none rfl) rfl (fun w => (rd_extract rfl rfl rfl)) ?_
       refine GO_rdT (v := .int .i64 (graK R L (goAt l i).who (goAt l i).role)) rfl (wn_none rfl) rfl (fun w => (rd_extract rfl rfl rfl)) ?_
       refine GO_of_GL rfl ?_
       refine GL_store (i := 5) (wn_none rfl) rfl rfl rfl rfl ts51 rfl rfl (oneC rfl (oneC rfl one0)) hp rfl (by first | exact Nat.le_of_ble_eq_true rfl | simp [bys_length, *]) rfl ?_
       intro w hp
       refine GL_nil ⟨fun h => absurd h (by decide), ?_⟩
       refine GO_of_GL rfl ?_
       refine GL_rd (v := .int .i64 (graK R L (goAt l i).who (goAt l i).role)) (wn_none rfl) rfl (rd_assign rfl rfl) (GL_nil ⟨fun h => absurd h (by decide), ?_⟩)
       refine GO_nil ?_
       refine GW_drawnK 13 (.one 0 true (.one 1 true (.one 2 true (.one 3 true (.one 4 true (.one 5 true (.one 6 true (.one 7 true (.one 8 true (.one 9 true (.one 10 true (.one 11 false (.one 12 true .nil))))))))))))) mixed (by kernel_rfl) hp (fun _ h => (h.sub (.cons _ (.cons _ (.cons _ (.cons _ (.cons_cons _ (.cons_cons _ (.cons_cons _ (.cons_cons _ .slnil)))))))))) fun w hp => ?_
       have hpS37 := (hp.sub (.cons _ (.cons _ (.cons _ (.cons _ (.cons_cons _ (.cons_cons _ (.cons_cons _ (.cons_cons _ .slnil)))))))))
       refine GO_rdT (v := .pointer (some ⟨gq, 0, none⟩)) rfl (wn_none rfl) rfl (fun w => (rd_move rfl rfl)) ?_
       refine GO_rdT (v := .slice _ _ _) rfl (wn_none rfl) rfl (fun w => (rd_move rfl rfl)) ?_
       refine GO_rdT (v := .int .i64 (i : Int)) rfl (wn_none rfl) rfl (fun w => (rd_move rfl rfl)) ?_
       refine GO_rdT rfl (wn_none rfl) rfl (fun w => (rd_indexS (j := i) rfl rfl rfl Try.underlying45 ts123 rfl (by omega) _ rfl)) ?_
       refine GO_rdT rfl (wn_none rfl) rfl (fun w => (rd_field rfl rfl fa123_1 _ rfl)) ?_
       refine GO_rd rfl rfl (wn_none rfl) rfl hpS37 (fun w hp => (rd_load rfl rfl Try.underlying9 rfl (Sl.goE (hl.keep hp.mod) i (by first | omega | assumption | exact Nat.lt_succ_self _) (go_who _)))) ?_
       refine GO_rdT (v := .slice _ _ _) rfl (wn_none rfl) rfl (fun w => (rd_move rfl rfl)) ?_
       refine GO_rdT (v := .int .i64 (i : Int)) rfl (wn_none rfl) rfl (fun w => (rd_move rfl rfl)) ?_
       refine GO_rdT rfl (wn_none rfl) rfl (fun w => (rd_indexS (j := i) rfl rfl rfl Try.underlying45 ts123 rfl (by omega) _ rfl)) ?_
       refine GO_rdT rfl (wn_none rfl) rfl (fun w => (rd_field rfl rfl fa123_2 _ rfl)) ?_
       refine GO_rd rfl rfl (wn_none rfl) rfl hpS37 (fun w hp => (rd_load rfl rfl Try.underlying9 rfl (Sl.goE (hl.keep hp.mod) i (by first | omega | assumption | exact Nat.lt_succ_self _) (go_role _)))) ?_
       refine GO_of_GL rfl ?_
       refine GL_call (wn_none rfl) rfl rfl (gu_GrantX gq rm pm cr cp RA PA mk ct R L (goAt l i).who (goAt l i).role (by have h1 := (hb0.2 _ (goAt_mem (i := i) (by omega))); omega) (by have h1 := hG.ctl (goAt l i).who; omega) _ _ (hp.ownsT 4) hO hG) rfl ?_
       rintro _ w ⟨rfl, PA2, cp2, ct2, hO2, hG2, hk⟩
       have hp := hp.turnsT 4 hk
       have hpS38 := (hp.sub (.cons _ (.cons _ (.cons _ (.cons _ (.cons_cons _ (.cons_cons _ (.cons_cons _ (.cons_cons _ .slnil)))))))))
       refine GL_nil ⟨fun _ => hpS38, ?_⟩
       refine GO_rdT (v := .int .i64 (graK R L (goAt l i).who (goAt l i).role)) rfl (wn_none rfl) rfl (fun w => (rd_assign rfl rfl)) ?_
       refine GO_nil ?_
       refine GW_seq ?_
       refine GW_region ?_
       refine GL_rd (v := .int .i64 (graK R L (goAt l i).who (goAt l i).role)) (wn_none rfl) rfl (rd_move rfl rfl) ?_
       refine GL_rd (v := .int .i64 (graK R L (goAt l i).who (goAt l i).role)) (wn_none rfl) rfl (rd_move rfl rfl) ?_
       refine GL_rd (wn_none rfl) rfl (rd_bin rfl rfl rfl bo_neq) ?_
       refine GL_nil ?_
       refine GW_cond rfl (fun hb25 => ?_) (fun hb25 => ?_)
       ·(try simp only [decide_eq_true_eq, decide_eq_false_iff_not, Bool.not_eq_true', Bool.not_eq_false', Bool.not_eq_eq_eq_not, Bool.not_true, Bool.not_false, Int.not_lt, Int.not_le] at hb25)
        first | exact absurd trivial hb25 | exact absurd rfl hb25
       ·(try simp only [decide_eq_true_eq, decide_eq_false_iff_not, Bool.not_eq_true', Bool.not_eq_false', Bool.not_eq_eq_eq_not, Bool.not_true, Bool.not_false, Int.not_lt, Int.not_le] at hb25)
        refine GW_skip ?_
        refine GW_region ?_
        refine GL_rd (v := .int .i64 (i : Int)) (wn_none rfl) rfl (rd_move rfl rfl) ?_
        refine GL_rd (wn_none rfl) rfl (rd_bin rfl rfl rfl (bo_add64 (by omega))) ?_
        refine GL_rd (v := .int _ _) (wn_none rfl) rfl (rd_assign rfl rfl) ?_
        refine GL_nil ?_
        have hp := (((((((((hp.front 7 rfl).front 7 rfl).front 7 rfl).front 7 rfl).front 7 rfl).front 7 rfl).front 7 rfl).front 7 rfl).take 8)
        exact ihL0 (i + 1, RA, cr, mk, PA2, cp2, ct2, _, _, R, (graX R L (goAt l i).who (goAt l i).role)) _ _ (by simp only []; omega) ⟨_, slots5 rfl rfl rfl rfl rfl, hp, by omega, hO2, hG2, hRo, by omega, by have := graX_len R L (goAt l i).who (goAt l i).role; omega⟩
      ·(try simp only [decide_eq_true_eq, decide_eq_false_iff_not, Bool.not_eq_true', Bool.not_eq_false', Bool.not_eq_eq_eq_not, Bool.not_true, Bool.not_false, Int.not_lt, Int.not_le] at hb24)
       refine GW_seq ?_
       refine GW_region ?_
       refine GL_rd (wn_none rfl) rfl (rd_bin rfl rfl rfl bo_eql) ?_
       refine GL_rd (v := .bool _) (wn_none rfl) rfl (rd_assign rfl rfl) ?_
       refine GL_nil ?_
       refine GW_cond rfl (fun hb26 => ?_) (fun hb26 => ?_)
       ·(try simp only [decide_eq_true_eq, decide_eq_false_iff_not, Bool.not_eq_true', Bool.not_eq_false', Bool.not_eq_eq_eq_not, Bool.not_true, Bool.not_false, Int.not_lt, Int.not_le] at hb26)
        refine GW_seq ?_
        refine GW_drawnK 15 (.one 0 true (.one 1 true (.one 2 true (.one 3 true (.one 4 true (.one 5 true (.one 6 true (.one 7 true (.one 8 true (.one 9 true (.one 10 true (.one 11 false (.one 12 true (.one 13 true (.one 14 true (.one 15 false (.one 16 false .nil))))))))))))))))) mixed (by kernel_rfl) hp (fun _ h => (h.sub (.cons_cons _ (.cons_cons _ (.cons_cons _ (.cons_cons _ (.cons_cons _ (.cons_cons _ (.cons_cons _ (.cons _ .slnil)))))))))) fun w hp => ?_
        have hpS39 := (hp.sub (.cons_cons _ (.cons_cons _ (.cons_cons _ (.cons_cons _ (.cons_cons _ (.cons_cons _ (.cons_cons _ (.cons _ .slnil)))))))))
        refine GO_rd rfl rfl (wn_none rfl) rfl hpS39 (fun w hp => (rd_loadC rfl rfl Try.underlying51 rfl ts51 (hp.get 5 rfl) (by first | (rw [bys_length]; first | exact a32_len _) | rfl | simp [bys_length, *]))) ?_
        refine GO_rdT (v := .slice _ _ _) rfl (wn_none rfl) rfl (fun w => (rd_move rfl rfl)) ?_
        refine GO_rdT (v := .int .i64 (i : Int)) rfl (wn_none rfl) rfl (fun w => (rd_move rfl rfl)) ?_
        refine GO_rdT rfl (wn_none rfl) rfl (fun w => (rd_indexS (j := i) rfl rfl rfl Try.underlying45 ts123 rfl (by omega) _ rfl)) ?_
        refine GO_rdT rfl (wn_none rfl) rfl (fun w => (rd_field rfl rfl fa123_1 _ rfl)) ?_
        refine GO_rd rfl rfl (wn_none rfl) rfl hpS39 (fun w hp => (rd_load rfl rfl Try.underlying9 rfl (Sl.goE (hl.keep hp.mod) i (by first | omega | assumption | exact Nat.lt_succ_self _) (go_who _)))) ?_
        refine GO_rdT (v := .slice _ _ _) rfl (wn_none rfl) rfl (fun w => (rd_move rfl rfl)) ?_
        refine GO_rdT (v := .int .i64 (i : Int)) rfl (wn_none rfl) rfl (fun w => (rd_move rfl rfl)) ?_
        refine GO_rdT rfl (wn_none rfl) rfl (fun w => (rd_indexS (j := i) rfl rfl rfl Try.underlying45 ts123 rfl (by omega) _ rfl)) ?_
        refine GO_rdT rfl (wn_none rfl) rfl (fun w => (rd_field rfl rfl fa123_2 _ rfl)) ?_
        refine GO_rd rfl rfl (wn_none rfl) rfl hpS39 (fun w hp => (rd_load rfl rfl Try.underlying9 rfl (Sl.goE (hl.keep hp.mod) i (by first | omega | assumption | exact Nat.lt_succ_self _) (go_role _)))) ?_
        refine GO_of_GL rfl ?_
        refine GL_call (wn_none rfl) rfl rfl (ref_gRevoke _ _ R L (goAt l i).who (goAt l i).role _ (Sl.row (hp.get 6 rfl)) (Sl.row (hp.get 7 rfl)) (by omega)) rfl ?_
        rintro _ w ⟨lv2, rfl, hk⟩
        have hp := hp.renew 7 rfl hk
        obtain ⟨Alv2, clv2, rfl⟩ := row_shape (hp.get 7 rfl)
        have hpS40 := (hp.sub (.cons_cons _ (.cons_cons _ (.cons_cons _ (.cons_cons _ (.cons_cons _ (.cons_cons _ (.cons_cons _ (.cons _ .slnil)))))))))
        refine GL_nil ⟨fun _ => hpS40, ?_⟩
        refine GO_rdT (v := .tuple _) rfl (wn_none rfl) rfl (fun w => (rd_move rfl rfl)) ?_
        refine GO_rdT (v := .agg ⟨_⟩) rfl (wn_none rfl) rfl (fun w => (rd_extract rfl rfl rfl)) ?_
        refine GO_rdT (v := .int .i64 (revK L (goAt l i).who (goAt l i).role)) rfl (wn_none rfl) rfl (fun w => (rd_extract rfl rfl rfl)) ?_
        refine GO_of_GL rfl ?_
        refine GL_store (i := 5) (wn_none rfl) rfl rfl rfl rfl ts51 rfl rfl (oneC rfl (oneC rfl one0)) hp rfl (by first | exact Nat.le_of_ble_eq_true rfl | simp [bys_length, *]) rfl ?_
        intro w hp
        refine GL_nil ⟨fun h => absurd h (by decide), ?_⟩
        refine GO_of_GL rfl ?_
        refine GL_rd (v := .int .i64 (revK L (goAt l i).who (goAt l i).role)) (wn_none rfl) rfl (rd_assign rfl rfl) (GL_nil ⟨fun h => absurd h (by decide), ?_⟩)
        refine GO_nil ?_
        refine GW_drawnK 13 (.one 0 true (.one 1 true (.one 2 true (.one 3 true (.one 4 true (.one 5 true (.one 6 true (.one 7 true (.one 8 true (.one 9 true (.one 10 true (.one 11 false (.one 12 true .nil))))))))))))) mixed (by kernel_rfl) hp (fun _ h => (h.sub (.cons _ (.cons _ (.cons _ (.cons _ (.cons_cons _ (.cons_cons _ (.cons_cons _ (.cons_cons _ .slnil)))))))))) fun w hp => ?_
        have hpS41 := (hp.sub (.cons _ (.cons _ (.cons _ (.cons _ (.cons_cons _ (.cons_cons _ (.cons_cons _ (.cons_cons _ .slnil)))))))))
        refine GO_rdT (v := .pointer (some ⟨gq, 0, none⟩)) rfl (wn_none rfl) rfl (fun w => (rd_move rfl rfl)) ?_
        refine GO_rdT (v := .slice _ _ _) rfl (wn_none rfl) rfl (fun w => (rd_move rfl rfl)) ?_
        refine GO_rdT (v := .int .i64 (i : Int)) rfl (wn_none rfl) rfl (fun w => (rd_move rfl rfl)) ?_
        refine GO_rdT rfl (wn_none rfl) rfl (fun w => (rd_indexS (j := i) rfl rfl rfl Try.underlying45 ts123 rfl (by omega) _ rfl)) ?_
        refine GO_rdT rfl (wn_none rfl) rfl (fun w => (rd_field rfl rfl fa123_1 _ rfl)) ?_
        refine GO_rd rfl rfl (wn_none rfl) rfl hpS41 (fun w hp => (rd_load rfl rfl Try.underlying9 rfl (Sl.goE (hl.keep hp.mod) i (by first | omega | assumption | exact Nat.lt_succ_self _) (go_who _)))) ?_
        refine GO_rdT (v := .slice _ _ _) rfl (wn_none rfl) rfl (fun w => (rd_move rfl rfl)) ?_
        refine GO_rdT (v := .int .i64 (i : Int)) rfl (wn_none rfl) rfl (fun w => (rd_move rfl rfl)) ?_
        refine GO_rdT rfl (wn_none rfl) rfl (fun w => (rd_indexS (j := i) rfl rfl rfl Try.underlying45 ts123 rfl (by omega) _ rfl)) ?_
        refine GO_rdT rfl (wn_none rfl) rfl (fun w => (rd_field rfl rfl fa123_2 _ rfl)) ?_
        refine GO_rd rfl rfl (wn_none rfl) rfl hpS41 (fun w hp => (rd_load rfl rfl Try.underlying9 rfl (Sl.goE (hl.keep hp.mod) i (by first | omega | assumption | exact Nat.lt_succ_self _) (go_role _)))) ?_
        refine GO_of_GL rfl ?_
        refine GL_call (wn_none rfl) rfl rfl (gu_RevokeX gq rm pm cr cp RA PA mk ct R L (goAt l i).who (goAt l i).role (by have h1 := hG.ctl (goAt l i).who; omega) _ _ (hp.ownsT 4) hO hG) rfl ?_
        rintro _ w ⟨rfl, PA2, cp2, ct2, hO2, hG2, hk⟩
        have hp := hp.turnsT 4 hk
        have hpS42 := (hp.sub (.cons _ (.cons _ (.cons _ (.cons _ (.cons_cons _ (.cons_cons _ (.cons_cons _ (.cons_cons _ .slnil)))))))))
        refine GL_nil ⟨fun _ => hpS42, ?_⟩
        refine GO_rdT (v := .int .i64 (revK L (goAt l i).who (goAt l i).role)) rfl (wn_none rfl) rfl (fun w => (rd_assign rfl rfl)) ?_
        refine GO_nil ?_
        refine GW_seq ?_
        refine GW_region ?_
        refine GL_rd (v := .int .i64 (revK L (goAt l i).who (goAt l i).role)) (wn_none rfl) rfl (rd_move rfl rfl) ?_
        refine GL_rd (v := .int .i64 (revK L (goAt l i).who (goAt l i).role)) (wn_none rfl) rfl (rd_move rfl rfl) ?_
        refine GL_rd (wn_none rfl) rfl (rd_bin rfl rfl rfl bo_neq) ?_
        refine GL_nil ?_
        refine GW_cond rfl (fun hb27 => ?_) (fun hb27 => ?_)
        ·(try simp only [decide_eq_true_eq, decide_eq_false_iff_not, Bool.not_eq_true', Bool.not_eq_false', Bool.not_eq_eq_eq_not, Bool.not_true, Bool.not_false, Int.not_lt, Int.not_le] at hb27)
         first | exact absurd trivial hb27 | exact absurd rfl hb27
        ·(try simp only [decide_eq_true_eq, decide_eq_false_iff_not, Bool.not_eq_true', Bool.not_eq_false', Bool.not_eq_eq_eq_not, Bool.not_true, Bool.not_false, Int.not_lt, Int.not_le] at hb27)
         refine GW_skip ?_
         refine GW_region ?_
         refine GL_rd (v := .int .i64 (i : Int)) (wn_none rfl) rfl (rd_move rfl rfl) ?_
         refine GL_rd (wn_none rfl) rfl (rd_bin rfl rfl rfl (bo_add64 (by omega))) ?_
         refine GL_rd (v := .int _ _) (wn_none rfl) rfl (rd_assign rfl rfl) ?_
         refine GL_nil ?_
         have hp := (((((((((hp.front 7 rfl).front 7 rfl).front 7 rfl).front 7 rfl).front 7 rfl).front 7 rfl).front 7 rfl).front 7 rfl).take 8)
         exact ihL0 (i + 1, RA, cr, mk, PA2, cp2, ct2, _, _, R, (revX L (goAt l i).who (goAt l i).role)) _ _ (by simp only []; omega) ⟨_, slots5 rfl rfl rfl rfl rfl, hp, by omega, hO2, hG2, hRo, by omega, by have := revX_len L (goAt l i).who (goAt l i).role; omega⟩
       ·(try simp only [decide_eq_true_eq, decide_eq_false_iff_not, Bool.not_eq_true', Bool.not_eq_false', Bool.not_eq_eq_eq_not, Bool.not_true, Bool.not_false, Int.not_lt, Int.not_le] at hb26)
        refine GW_skip ?_
        refine GW_seq ?_
        refine GW_region ?_
        refine GL_rd (v := .int _ _) (wn_none rfl) rfl (rd_move rfl rfl) ?_
        refine GL_rd (v := .int _ _) (wn_none rfl) rfl (rd_move rfl rfl) ?_
        refine GL_rd (wn_none rfl) rfl (rd_bin rfl rfl rfl bo_neq) ?_
        refine GL_nil ?_
        refine GW_cond rfl (fun hb28 => ?_) (fun hb28 => ?_)
        ·(try simp only [decide_eq_true_eq, decide_eq_false_iff_not, Bool.not_eq_true', Bool.not_eq_false', Bool.not_eq_eq_eq_not, Bool.not_true, Bool.not_false, Int.not_lt, Int.not_le] at hb28)
         first | exact absurd trivial hb28 | exact absurd rfl hb28
        ·(try simp only [decide_eq_true_eq, decide_eq_false_iff_not, Bool.not_eq_true', Bool.not_eq_false', Bool.not_eq_eq_eq_not, Bool.not_true, Bool.not_false, Int.not_lt, Int.not_le] at hb28)
         refine GW_skip ?_
         refine GW_region ?_
         refine GL_rd (v := .int .i64 (i : Int)) (wn_none rfl) rfl (rd_move rfl rfl) ?_
         refine GL_rd (wn_none rfl) rfl (rd_bin rfl rfl rfl (bo_add64 (by omega))) ?_
         refine GL_rd (v := .int _ _) (wn_none rfl) rfl (rd_assign rfl rfl) ?_
         refine GL_nil ?_
         have hp := (((((((((hp.front 7 rfl).front 7 rfl).front 7 rfl).front 7 rfl).front 7 rfl).front 7 rfl).front 7 rfl).front 7 rfl).take 8)
         exact ihL0 (i + 1, RA, cr, mk, PA, cp, ct, _, _, R, L) _ _ (by simp only []; omega) ⟨_, slots5 rfl rfl rfl rfl rfl, hp, by omega, hO, hG, hRo, by omega, by omega⟩
  ·(try simp only [decide_eq_true_eq, decide_eq_false_iff_not, Bool.not_eq_true', Bool.not_eq_false', Bool.not_eq_eq_eq_not, Bool.not_true, Bool.not_false, Int.not_lt, Int.not_le] at hb)
   obtain rfl : i = l.length := by omega
   obtain ⟨AL, cL, rfl⟩ := row_shape (hp.get 7 rfl)
   obtain ⟨AR, cR, rfl⟩ := row_shape (hp.get 6 rfl)
   refine GW_exit ?_
   refine GW_seq ?_
   refine GW_drawnK 3 (.one 0 true (.one 1 true (.one 2 true (.one 3 false (.one 4 false .nil))))) mixed (by kernel_rfl) hp (fun _ h => (h.sub (.cons_cons _ (.cons_cons _ (.cons_cons _ (.cons_cons _ (.cons _ (.cons_cons _ (.cons_cons _ (.cons_cons _ .slnil)))))))))) fun w hp => ?_
   have hpS43 := (hp.sub (.cons_cons _ (.cons_cons _ (.cons_cons _ (.cons_cons _ (.cons _ (.cons_cons _ (.cons_cons _ (.cons_cons _ .slnil)))))))))
   refine GO_rdT (v := .pointer (some ⟨gq, 0, none⟩)) rfl (wn_none rfl) rfl (fun w => (rd_move rfl rfl)) ?_
   refine GO_rd rfl rfl (wn_none rfl) rfl hpS43 (fun w hp => (rd_loadC rfl rfl Try.underlying51 rfl ts51 (hp.get 4 rfl) (by first | (rw [bys_length]; first | exact a32_len _) | rfl | simp [bys_length, *]))) ?_
   refine GO_rdT (v := .pointer (some ⟨gq, 0, none⟩)) rfl (wn_none rfl) rfl (fun w => (rd_assign rfl rfl)) ?_
   refine GO_of_GL rfl ?_
   refine GL_store (i := 4) (wn_none rfl) rfl rfl rfl rfl ts51 rfl rfl (oneC rfl (oneC rfl one0)) hp rfl (by first | exact Nat.le_of_ble_eq_true rfl | simp [bys_length, *]) rfl ?_
   intro w hp
   refine GL_nil ⟨fun h => absurd h (by decide), ?_⟩
   refine GO_of_GL rfl ?_
   refine GL_rd (v := .bool _) (wn_none rfl) rfl (rd_assign rfl rfl) (GL_nil ⟨fun h => absurd h (by decide), ?_⟩)
   refine GO_nil ?_
   refine GW_ret ?_
   refine ⟨_, res3 Try.results21 (rv_tmp (v := .pointer (some ⟨gq, 0, none⟩)) rfl rfl) (rv_cell rfl rfl Try.underlying51 rfl ts51 rfl (hp.get 4 rfl)) (rv_tmp (v := .bool _) rfl rfl), gq, rm, pm, cr, cp, RA, PA, mk, ct, .slice AR R.length cR, .slice AL L.length cL, R, L, rfl, hO, hG, hRo, by omega, by omega, ?_⟩
   have hp := (((((((hp.front 7 rfl).front 7 rfl).front 5 rfl).front 5 rfl).front 5 rfl).front 5 rfl).take 6)
   exact hp
 ·have hp := hp.packNil
  have hp := hp.nilRow 61 2
  have hp := hp.nilRow 128 2
  skip
  have hp := (((((((((hp.front 0 rfl).front 1 rfl).front 3 rfl).front 7 rfl).front 4 rfl).front 7 rfl).front 7 rfl).front 7 rfl).take 8)
  refine ⟨_, slots5 rfl rfl rfl rfl rfl, hp, Nat.zero_le _, GuOk.nil, GuRel.nil, fun _ _ x hx => (by cases hx), Nat.le_refl _, Nat.le_refl _⟩
end Go.Proofs.Ytpagpmioopaciaa
