/- Walks of functions of the program. -/
import Derived.Test.YtjbbknjhgdmdkaaFAgenda
set_option linter.unusedVariables false
set_option linter.unusedSimpArgs false
namespace Go.Proofs.Ytjbbknjhgdmdkaa
open Go.Mo Go.RowKit
theorem ag_works (w0 : World) : Does Try.prog 15 #[] w0 fun v w' => v = .bool true ∧ Hp w0 [] w' [] := by
 refine does_of (l := []) Try.func15 (by kernel_rfl) rfl Try.ntmps15 rfl rfl ?_
 have hp := Hp.refl w0 []
 refine GW_seq ?_
 refine GW_region ?_
 refine GL_rd (v := .bool _) (wn_none rfl) rfl (rd_assign rfl rfl) ?_
 refine GL_nil ?_
 refine GW_seq ?_
 refine GW_region ?_
 refine GL_call (wn_none rfl) rfl rfl (agi_New _) rfl ?_
 rintro _ w ⟨gq, rfl, hk⟩
 have hp := hp.comp hk
 have hp := hp.nilRow 145 3
 refine GL_rd (v := .pointer (some ⟨_, _, none⟩)) (wn_none rfl) rfl (rd_assign rfl rfl) ?_
 refine GL_nil ?_
 refine GW_seq ?_
 refine GW_seq ?_
 refine GW_region ?_
 refine GL_rd (v := .pointer (some ⟨_, _, none⟩)) (wn_none rfl) rfl (rd_move rfl rfl) ?_
 refine GL_rd (wn_none rfl) rfl (rd_bin rfl rfl rfl (bo_pnil Try.underlying24)) ?_
 refine GL_rd (v := .bool _) (wn_none rfl) rfl (rd_move rfl rfl) ?_
 refine GL_call (wn_on rfl rfl rfl rfl) rfl rfl (aga_OfNil _) rfl ?_
 rintro _ w ⟨gz, rfl, hk⟩
 have hp := hp.comp hk
 refine GL_rd (wn_on rfl rfl rfl rfl) rfl (rd_bin rfl rfl rfl (bo_pnil Try.underlying138)) ?_
 refine GL_rd (v := .bool _) (wn_none rfl) rfl (rd_pickF rfl rfl rfl) ?_
 refine GL_nil ?_
 refine GW_false rfl ?_
 refine GW_skip ?_
 refine GW_seq ?_
 refine GW_region ?_
 refine GL_rd (v := .pointer (some ⟨_, _, none⟩)) (wn_none rfl) rfl (rd_move rfl rfl) ?_
 have hp := ((hp.front 1 rfl).front 2 rfl)
 refine GL_call (wn_none rfl) rfl rfl (agi_Add gq _ 0 0 [] _ (5) (1) _ (by omega) (by omega) Rep.nil.heap (hp.ownsT 2)) rfl ?_
 rintro _ w ⟨sv1, h1, rfl, hpm1, hhp1, hk⟩
 have hp := hp.turnsT 2 hk
 have hr1 : Rep h1 [⟨5, 0, 1⟩] 1 := (Rep.nil).add (x := ⟨5, 0, 1⟩) rfl hpm1 hhp1
 refine GL_nil ?_
 refine GW_seq ?_
 refine GW_region ?_
 refine GL_rd (v := .pointer (some ⟨_, _, none⟩)) (wn_none rfl) rfl (rd_move rfl rfl) ?_
 have hp := ((hp.front 1 rfl).front 1 rfl)
 refine GL_call (wn_none rfl) rfl rfl (agi_Add gq _ (0 + 1) (0 + 1) h1 _ (3) (2) _ (by omega) (by omega) hr1.heap (hp.ownsT 2)) rfl ?_
 rintro _ w ⟨sv2, h2, rfl, hpm2, hhp2, hk⟩
 have hp := hp.turnsT 2 hk
 have hr2 : Rep h2 [⟨3, 1, 2⟩, ⟨5, 0, 1⟩] 2 := (hr1).add (x := ⟨3, 1, 2⟩) rfl hpm2 hhp2
 refine GL_nil ?_
 refine GW_seq ?_
 refine GW_region ?_
 refine GL_rd (v := .pointer (some ⟨_, _, none⟩)) (wn_none rfl) rfl (rd_move rfl rfl) ?_
 have hp := ((hp.front 1 rfl).front 1 rfl)
 refine GL_call (wn_none rfl) rfl rfl (agi_Add gq _ (0 + 1 + 1) (0 + 1 + 1) h2 _ (5) (3) _ (by omega) (by omega) hr2.heap (hp.ownsT 2)) rfl ?_
 rintro _ w ⟨sv3, h3, rfl, hpm3, hhp3, hk⟩
 have hp := hp.turnsT 2 hk
 have hr3 : Rep h3 [⟨3, 1, 2⟩, ⟨5, 0, 1⟩, ⟨5, 2, 3⟩] 3 := (hr2).add (x := ⟨5, 2, 3⟩) rfl hpm3 hhp3
 have e3 : itAt h3 0 = ⟨3, 1, 2⟩ := hr3.head
 refine GL_nil ?_
 refine GW_seq ?_
 refine GW_region ?_
 refine GL_rd (v := .pointer (some ⟨_, _, none⟩)) (wn_none rfl) rfl (rd_move rfl rfl) ?_
 refine GL_call (wn_none rfl) rfl rfl (agi_Next gq _ _ _ h3 _ (hp.get 0 rfl) (Sl.row (hp.get 1 rfl))) rfl ?_
 rintro _ w ⟨rfl, hk⟩
 have hp := hp.comp hk
 rw [e3]
 refine GL_rd (v := .tuple _) (wn_none rfl) rfl (rd_move rfl rfl) ?_
 refine GL_rd (v := .int _ _) (wn_none rfl) rfl (rd_extract rfl rfl rfl) ?_
 refine GL_rd (v := _) (wn_none rfl) rfl (rd_extract rfl rfl rfl) ?_
 refine GL_rd (v := .bool _) (wn_none rfl) rfl (rd_extract rfl rfl rfl) ?_
 refine GL_rd (v := .int _ _) (wn_none rfl) rfl (rd_assign rfl rfl) ?_
 refine GL_rd (v := _) (wn_none rfl) rfl (rd_assign rfl rfl) ?_
 refine GL_rd (v := .bool _) (wn_none rfl) rfl (rd_assign rfl rfl) ?_
 refine GL_nil ?_
 refine GW_seq ?_
 refine GW_region ?_
 refine GL_rd (v := .pointer (some ⟨_, _, none⟩)) (wn_none rfl) rfl (rd_move rfl rfl) ?_
 have hp := ((hp.front 1 rfl).front 1 rfl)
 refine GL_call (wn_none rfl) rfl rfl (agi_Take gq _ (0 + 1 + 1 + 1) (0 + 1 + 1 + 1) h3 _ [⟨3, 1, 2⟩, ⟨5, 0, 1⟩, ⟨5, 2, 3⟩] (2) _ (by omega) hr3 (hp.ownsT 2)) rfl ?_
 rintro _ w ⟨sv4, h4, rfl, hr4, hk⟩
 have hp := hp.turnsT 2 hk
 have hr4 : Rep h4 [⟨3, 1, 2⟩, ⟨5, 0, 1⟩, ⟨5, 2, 3⟩] 3 := hr4
 have hl4 : h4.length = 3 := hr4.len
 refine GL_rd (v := .tuple _) (wn_none rfl) rfl (rd_move rfl rfl) ?_
 refine GL_rd (v := _) (wn_none rfl) rfl (rd_extract rfl rfl rfl) ?_
 refine GL_rd (v := .bool _) (wn_none rfl) rfl (rd_extract rfl rfl rfl) ?_
 refine GL_rd (v := _) (wn_none rfl) rfl (rd_assign rfl rfl) ?_
 refine GL_rd (v := .bool _) (wn_none rfl) rfl (rd_assign rfl rfl) ?_
 refine GL_nil ?_
 refine GW_seq ?_
 refine GW_region ?_
 refine GL_rd (v := .pointer (some ⟨_, _, none⟩)) (wn_none rfl) rfl (rd_move rfl rfl) ?_
 have hp := ((hp.front 1 rfl).front 1 rfl)
 refine GL_call (wn_none rfl) rfl rfl (agi_Take gq _ (0 + 1 + 1 + 1) _ h4 _ [⟨3, 1, 2⟩, ⟨5, 0, 1⟩, ⟨5, 2, 3⟩] (3) _ (by omega) hr4 (hp.ownsT 2)) rfl ?_
 rintro _ w ⟨sv5, h5, rfl, hr5, hk⟩
 have hp := hp.turnsT 2 hk
 have hr5 : Rep h5 [⟨5, 0, 1⟩, ⟨5, 2, 3⟩] 3 := hr5
 refine GL_rd (v := .tuple _) (wn_none rfl) rfl (rd_move rfl rfl) ?_
 refine GL_rd (v := _) (wn_none rfl) rfl (rd_extract rfl rfl rfl) ?_
 refine GL_rd (v := .bool _) (wn_none rfl) rfl (rd_extract rfl rfl rfl) ?_
 refine GL_rd (v := _) (wn_none rfl) rfl (rd_assign rfl rfl) ?_
 refine GL_rd (v := .bool _) (wn_none rfl) rfl (rd_assign rfl rfl) ?_
 refine GL_nil ?_
 refine GW_seq ?_
 refine GW_region ?_
 refine GL_rd (v := .pointer (some ⟨_, _, none⟩)) (wn_none rfl) rfl (rd_move rfl rfl) ?_
 have hp := ((hp.front 1 rfl).front 1 rfl)
 refine GL_call (wn_none rfl) rfl rfl (agi_Due gq _ (0 + 1 + 1 + 1) _ h5 _ [⟨5, 0, 1⟩, ⟨5, 2, 3⟩] 9 _ (by rw [hr5.len]; decide) hr5 (hp.ownsT 2)) rfl ?_
 rintro vd w ⟨sv6, h6, hr6, hk⟩
 have hp := hp.turnsT 2 hk
 have hl6 : h6.length = 0 := hr6.len
 rw [hl6] at hp
 obtain ⟨gd, cd, hq, hcap⟩ := row_addr (hp.get 0 rfl) (by decide)
 subst hq
 refine GL_rd (v := .slice _ _ _) (wn_none rfl) rfl (rd_assign rfl rfl) ?_
 refine GL_nil ?_
 refine GW_seq ?_
 refine GW_region ?_
 refine GL_rd (v := .pointer (some ⟨_, _, none⟩)) (wn_none rfl) rfl (rd_move rfl rfl) ?_
 refine GL_call (wn_none rfl) rfl rfl (agi_Next gq _ _ _ h6 _ (hp.get 1 rfl) (Sl.row (hp.get 2 rfl))) rfl ?_
 rintro _ w ⟨rfl, hk⟩
 have hp := hp.comp hk
 refine GL_rd (v := .tuple _) (wn_none rfl) rfl (rd_move rfl rfl) ?_
 refine GL_rd (v := .int _ _) (wn_none rfl) rfl (rd_extract rfl rfl rfl) ?_
 refine GL_rd (v := _) (wn_none rfl) rfl (rd_extract rfl rfl rfl) ?_
 refine GL_rd (v := .bool _) (wn_none rfl) rfl (rd_extract rfl rfl rfl) ?_
 refine GL_rd (v := .int _ _) (wn_none rfl) rfl (rd_assign rfl rfl) ?_
 refine GL_rd (v := _) (wn_none rfl) rfl (rd_assign rfl rfl) ?_
 refine GL_rd (v := .bool _) (wn_none rfl) rfl (rd_assign rfl rfl) ?_
 refine GL_nil ?_
 refine GW_seq ?_
 refine GW_region ?_
 refine GL_rd (v := .int _ _) (wn_none rfl) rfl (rd_move rfl rfl) ?_
 refine GL_rd (wn_none rfl) rfl (rd_bin rfl rfl rfl bo_eql) ?_
 refine GL_rd (v := .bool _) (wn_none rfl) rfl (rd_move rfl rfl) ?_
 refine GL_split (t := 52) (b := _) rfl ?_ ?_
 ·intro hb; (try simp only [decide_eq_true_eq, decide_eq_false_iff_not, Bool.not_eq_true', Bool.not_eq_false', Bool.not_eq_eq_eq_not, Bool.not_true, Bool.not_false, Int.not_lt, Int.not_le] at hb)
  refine GL_rd (v := _) (wn_on rfl rfl rfl rfl) rfl (rd_move rfl rfl) ?_
  refine GL_rd (wn_on rfl rfl rfl rfl) rfl (rd_bin rfl rfl rfl bo_eql) ?_
  refine GL_rd (v := .bool _) (wn_none rfl) rfl (rd_pickT rfl rfl rfl) ?_
  refine GL_rd (v := .bool _) (wn_none rfl) rfl (rd_move rfl rfl) ?_
  refine GL_split (t := 56) (b := _) rfl ?_ ?_
  ·intro hb2; (try simp only [decide_eq_true_eq, decide_eq_false_iff_not, Bool.not_eq_true', Bool.not_eq_false', Bool.not_eq_eq_eq_not, Bool.not_true, Bool.not_false, Int.not_lt, Int.not_le] at hb2)
   refine GL_rd (v := .bool _) (wn_on rfl rfl rfl rfl) rfl (rd_move rfl rfl) ?_
   refine GL_rd (v := .bool _) (wn_none rfl) rfl (rd_pickT rfl rfl rfl) ?_
   refine GL_rd (v := .bool _) (wn_none rfl) rfl (rd_move rfl rfl) ?_
   refine GL_rd (v := _) (wn_on rfl rfl rfl rfl) rfl (rd_move rfl rfl) ?_
   refine GL_rd (wn_on rfl rfl rfl rfl) rfl (rd_bin rfl rfl rfl bo_eql) ?_
   refine GL_rd (v := .bool _) (wn_none rfl) rfl (rd_pickT rfl rfl rfl) ?_
   refine GL_rd (v := .bool _) (wn_none rfl) rfl (rd_move rfl rfl) ?_
   refine GL_split (t := 63) (b := _) rfl ?_ ?_
   ·intro hb3; (try simp only [decide_eq_true_eq, decide_eq_false_iff_not, Bool.not_eq_true', Bool.not_eq_false', Bool.not_eq_eq_eq_not, Bool.not_true, Bool.not_false, Int.not_lt, Int.not_le] at hb3)
    refine GL_rd (v := .bool _) (wn_on rfl rfl rfl rfl) rfl (rd_move rfl rfl) ?_
    refine GL_rd (wn_on rfl rfl rfl rfl) rfl (rd_not rfl rfl) ?_
    refine GL_rd (v := .bool _) (wn_none rfl) rfl (rd_pickT rfl rfl rfl) ?_
    refine GL_rd (v := .bool _) (wn_none rfl) rfl (rd_move rfl rfl) ?_
    refine GL_rd (v := _) (wn_on rfl rfl rfl rfl) rfl (rd_move rfl rfl) ?_
    refine GL_rd (wn_on rfl rfl rfl rfl) rfl (rd_bin rfl rfl rfl bo_eql) ?_
    refine GL_rd (v := .bool _) (wn_none rfl) rfl (rd_pickT rfl rfl rfl) ?_
    refine GL_rd (v := .bool _) (wn_none rfl) rfl (rd_move rfl rfl) ?_
    refine GL_split (t := 71) (b := _) rfl ?_ ?_
    ·intro hb4; (try simp only [decide_eq_true_eq, decide_eq_false_iff_not, Bool.not_eq_true', Bool.not_eq_false', Bool.not_eq_eq_eq_not, Bool.not_true, Bool.not_false, Int.not_lt, Int.not_le] at hb4)
     refine GL_rd (v := .bool _) (wn_on rfl rfl rfl rfl) rfl (rd_move rfl rfl) ?_
     refine GL_rd (v := .bool _) (wn_none rfl) rfl (rd_pickT rfl rfl rfl) ?_
     refine GL_rd (v := .bool _) (wn_none rfl) rfl (rd_move rfl rfl) ?_
     refine GL_rd (v := .slice _ _ _) (wn_on rfl rfl rfl rfl) rfl (rd_move rfl rfl) ?_
     refine GL_rd (wn_on rfl rfl rfl rfl) rfl (rd_len rfl rfl Try.underlying57) ?_
     refine GL_rd (wn_on rfl rfl rfl rfl) rfl (rd_bin rfl rfl rfl bo_eql) ?_
     refine GL_rd (v := .bool _) (wn_none rfl) rfl (rd_pickT rfl rfl rfl) ?_
     refine GL_rd (v := .bool _) (wn_none rfl) rfl (rd_move rfl rfl) ?_
     refine GL_split (t := 79) (b := _) rfl ?_ ?_
     ·intro hb5; (try simp only [decide_eq_true_eq, decide_eq_false_iff_not, Bool.not_eq_true', Bool.not_eq_false', Bool.not_eq_eq_eq_not, Bool.not_true, Bool.not_false, Int.not_lt, Int.not_le] at hb5)
      refine GL_rd (v := .slice _ _ _) (wn_on rfl rfl rfl rfl) rfl (rd_move rfl rfl) ?_
      refine GL_rd (wn_on rfl rfl rfl rfl) rfl (rd_indexS (j := 0) rfl rfl rfl Try.underlying57 ts3 rfl (by decide) _ rfl) ?_
      refine GL_rd (wn_on rfl rfl rfl rfl) rfl (rd_load rfl rfl Try.underlying3 rfl ((Sl.row (hp.get 0 rfl)).get (0 * 1) _ rfl)) ?_
      refine GL_rd (wn_on rfl rfl rfl rfl) rfl (rd_bin rfl rfl rfl bo_eql) ?_
      refine GL_rd (v := .bool _) (wn_none rfl) rfl (rd_pickT rfl rfl rfl) ?_
      refine GL_rd (v := .bool _) (wn_none rfl) rfl (rd_move rfl rfl) ?_
      refine GL_split (t := 85) (b := _) rfl ?_ ?_
      ·intro hb6; (try simp only [decide_eq_true_eq, decide_eq_false_iff_not, Bool.not_eq_true', Bool.not_eq_false', Bool.not_eq_eq_eq_not, Bool.not_true, Bool.not_false, Int.not_lt, Int.not_le] at hb6)
       refine GL_rd (v := .slice _ _ _) (wn_on rfl rfl rfl rfl) rfl (rd_move rfl rfl) ?_
       refine GL_rd (wn_on rfl rfl rfl rfl) rfl (rd_indexS (j := 1) rfl rfl rfl Try.underlying57 ts3 rfl (by decide) _ rfl) ?_
       refine GL_rd (wn_on rfl rfl rfl rfl) rfl (rd_load rfl rfl Try.underlying3 rfl ((Sl.row (hp.get 0 rfl)).get (1 * 1) _ rfl)) ?_
       refine GL_rd (wn_on rfl rfl rfl rfl) rfl (rd_bin rfl rfl rfl bo_eql) ?_
       refine GL_rd (v := .bool _) (wn_none rfl) rfl (rd_pickT rfl rfl rfl) ?_
       refine GL_rd (v := .bool _) (wn_none rfl) rfl (rd_move rfl rfl) ?_
       refine GL_split (t := 91) (b := _) rfl ?_ ?_
       ·intro hb7; (try simp only [decide_eq_true_eq, decide_eq_false_iff_not, Bool.not_eq_true', Bool.not_eq_false', Bool.not_eq_eq_eq_not, Bool.not_true, Bool.not_false, Int.not_lt, Int.not_le] at hb7)
        refine GL_rd (v := .bool _) (wn_on rfl rfl rfl rfl) rfl (rd_move rfl rfl) ?_
        refine GL_rd (wn_on rfl rfl rfl rfl) rfl (rd_not rfl rfl) ?_
        refine GL_rd (v := .bool _) (wn_none rfl) rfl (rd_pickT rfl rfl rfl) ?_
        refine GL_rd (v := .bool _) (wn_none rfl) rfl (rd_move rfl rfl) ?_
        refine GL_rd (v := .pointer (some ⟨_, _, none⟩)) (wn_on rfl rfl rfl rfl) rfl (rd_move rfl rfl) ?_
        refine GL_call (wn_on rfl rfl rfl rfl) rfl rfl (agi_Len gq _ _ _ h6 _ (hp.get 1 rfl) (Sl.row (hp.get 2 rfl))) rfl ?_
        rintro _ w ⟨rfl, hk⟩
        have hp := hp.comp hk
        refine GL_rd (wn_on rfl rfl rfl rfl) rfl (rd_bin rfl rfl rfl bo_eql) ?_
        refine GL_rd (v := .bool _) (wn_none rfl) rfl (rd_pickT rfl rfl rfl) ?_
        refine GL_rd (v := .bool _) (wn_none rfl) rfl (rd_move rfl rfl) ?_
        refine GL_split (t := 100) (b := _) rfl ?_ ?_
        ·intro hb8; (try simp only [decide_eq_true_eq, decide_eq_false_iff_not, Bool.not_eq_true', Bool.not_eq_false', Bool.not_eq_eq_eq_not, Bool.not_true, Bool.not_false, Int.not_lt, Int.not_le] at hb8)
         refine GL_rd (v := .pointer (some ⟨_, _, none⟩)) (wn_on rfl rfl rfl rfl) rfl (rd_move rfl rfl) ?_
         refine GL_call (wn_on rfl rfl rfl rfl) rfl rfl (agi_Sound gq _ _ _ h6 _ (hp.get 1 rfl) (Sl.row (hp.get 2 rfl)) hr6.heap) rfl ?_
         rintro _ w ⟨rfl, hk⟩
         have hp := hp.comp hk
         refine GL_rd (v := .bool _) (wn_none rfl) rfl (rd_pickT rfl rfl rfl) ?_
         refine GL_rd (v := .bool _) (wn_none rfl) rfl (rd_move rfl rfl) ?_
         refine GL_call (wn_on rfl rfl rfl rfl) rfl rfl (aga_OfNil _) rfl ?_
         rintro _ w ⟨gz2, rfl, hk⟩
         have hp := hp.comp hk
         refine GL_call (wn_on rfl rfl rfl rfl) rfl rfl (aga_Len gz2 _ (hp.get 0 rfl)) rfl ?_
         rintro _ w ⟨rfl, hk⟩
         have hp := hp.comp hk
         refine GL_rd (wn_on rfl rfl rfl rfl) rfl (rd_bin rfl rfl rfl bo_eql) ?_
         refine GL_rd (v := .bool _) (wn_none rfl) rfl (rd_pickT rfl rfl rfl) ?_
         refine GL_rd (v := .bool _) (wn_none rfl) rfl (rd_assign rfl rfl) ?_
         refine GL_nil ?_
         refine GW_ret ?_
         exact ⟨_, res1 Try.results15 (rv_tmp (v := .bool _) rfl rfl), rfl, hp.mods⟩
        ·intro hb8; (try simp only [decide_eq_true_eq, decide_eq_false_iff_not, Bool.not_eq_true', Bool.not_eq_false', Bool.not_eq_eq_eq_not, Bool.not_true, Bool.not_false, Int.not_lt, Int.not_le] at hb8)
         all_goals first | exact absurd rfl hb8 | exact absurd trivial hb8 | exact absurd hb8 (by decide) | exact absurd (by decide) hb8 | exact absurd (by omega) hb8 | exact absurd hb8 (by omega)
       ·intro hb7; (try simp only [decide_eq_true_eq, decide_eq_false_iff_not, Bool.not_eq_true', Bool.not_eq_false', Bool.not_eq_eq_eq_not, Bool.not_true, Bool.not_false, Int.not_lt, Int.not_le] at hb7)
        all_goals first | exact absurd rfl hb7 | exact absurd trivial hb7 | exact absurd hb7 (by decide) | exact absurd (by decide) hb7 | exact absurd (by omega) hb7 | exact absurd hb7 (by omega)
      ·intro hb6; (try simp only [decide_eq_true_eq, decide_eq_false_iff_not, Bool.not_eq_true', Bool.not_eq_false', Bool.not_eq_eq_eq_not, Bool.not_true, Bool.not_false, Int.not_lt, Int.not_le] at hb6)
       all_goals first | exact absurd rfl hb6 | exact absurd trivial hb6 | exact absurd hb6 (by decide) | exact absurd (by decide) hb6 | exact absurd (by omega) hb6 | exact absurd hb6 (by omega)
     ·intro hb5; (try simp only [decide_eq_true_eq, decide_eq_false_iff_not, Bool.not_eq_true', Bool.not_eq_false', Bool.not_eq_eq_eq_not, Bool.not_true, Bool.not_false, Int.not_lt, Int.not_le] at hb5)
      all_goals first | exact absurd rfl hb5 | exact absurd trivial hb5 | exact absurd hb5 (by decide) | exact absurd (by decide) hb5 | exact absurd (by omega) hb5 | exact absurd hb5 (by omega)
    ·intro hb4; (try simp only [decide_eq_true_eq, decide_eq_false_iff_not, Bool.not_eq_true', Bool.not_eq_false', Bool.not_eq_eq_eq_not, Bool.not_true, Bool.not_false, Int.not_lt, Int.not_le] at hb4)
     all_goals first | exact absurd rfl hb4 | exact absurd trivial hb4 | exact absurd hb4 (by decide) | exact absurd (by decide) hb4 | exact absurd (by omega) hb4 | exact absurd hb4 (by omega)
   ·intro hb3; (try simp only [decide_eq_true_eq, decide_eq_false_iff_not, Bool.not_eq_true', Bool.not_eq_false', Bool.not_eq_eq_eq_not, Bool.not_true, Bool.not_false, Int.not_lt, Int.not_le] at hb3)
    all_goals first | exact absurd rfl hb3 | exact absurd trivial hb3 | exact absurd hb3 (by decide) | exact absurd (by decide) hb3 | exact absurd (by omega) hb3 | exact absurd hb3 (by omega)
  ·intro hb2; (try simp only [decide_eq_true_eq, decide_eq_false_iff_not, Bool.not_eq_true', Bool.not_eq_false', Bool.not_eq_eq_eq_not, Bool.not_true, Bool.not_false, Int.not_lt, Int.not_le] at hb2)
   all_goals first | exact absurd rfl hb2 | exact absurd trivial hb2 | exact absurd hb2 (by decide) | exact absurd (by decide) hb2 | exact absurd (by omega) hb2 | exact absurd hb2 (by omega)
 ·intro hb; (try simp only [decide_eq_true_eq, decide_eq_false_iff_not, Bool.not_eq_true', Bool.not_eq_false', Bool.not_eq_eq_eq_not, Bool.not_true, Bool.not_false, Int.not_lt, Int.not_le] at hb)
  all_goals first | exact absurd rfl hb | exact absurd trivial hb | exact absurd hb (by decide) | exact absurd (by decide) hb | exact absurd (by omega) hb | exact absurd hb (by omega)

theorem law_AgendaDoes (sv : Value) (k : Nat) (l : List (Int × Int × Int)) (w0 : World) (hs : Sl w0 sv 3 k (l.flatMap trC)) : Does Try.prog 3 #[sv] w0 fun v w' => v = .bool true ∧ Hp w0 [] w' [] := by
 obtain ⟨A, c, rfl⟩ := sl_shape hs
 have hlen := flat_len trC_len (by decide) hs.len
 refine does_of (l := [.slice A k c]) Try.func3 (by kernel_rfl) rfl Try.ntmps3 rfl rfl ?_
 have hp := Hp.refl w0 []
 refine GW_seq ?_
 refine GW_region ?_
 refine GL_rd (v := .bool _) (wn_none rfl) rfl (rd_assign rfl rfl) ?_
 refine GL_nil ?_
 refine GW_seq ?_
 refine GW_seq ?_
 refine GW_region ?_
 refine GL_rd (v := .slice _ _ _) (wn_none rfl) rfl (rd_move rfl rfl) ?_
 refine GL_rd (wn_none rfl) rfl (rd_len rfl rfl Try.underlying22) ?_
 refine GL_rd (wn_none rfl) rfl (rd_bin rfl rfl rfl bo_gtr) ?_
 refine GL_nil ?_
 refine GW_cond rfl (fun hb => ?_) (fun hb => ?_)
 ·(try simp only [decide_eq_true_eq, decide_eq_false_iff_not, Bool.not_eq_true', Bool.not_eq_false', Bool.not_eq_eq_eq_not, Bool.not_true, Bool.not_false, Int.not_lt, Int.not_le] at hb)
  refine GW_seq ?_
  refine GW_region ?_
  refine GL_call (wn_none rfl) rfl rfl (ag_works _) rfl ?_
  rintro _ w ⟨rfl, hk⟩
  have hp := hp.comp hk
  refine GL_rd (v := .bool _) (wn_none rfl) rfl (rd_assign rfl rfl) ?_
  refine GL_nil ?_
  refine GW_ret ?_
  exact ⟨_, res1 Try.results3 (rv_tmp (v := .bool _) rfl rfl), rfl, hp.mods⟩
 ·(try simp only [decide_eq_true_eq, decide_eq_false_iff_not, Bool.not_eq_true', Bool.not_eq_false', Bool.not_eq_eq_eq_not, Bool.not_true, Bool.not_false, Int.not_lt, Int.not_le] at hb)
  have hk100 : k ≤ 100 := by have := hb; omega
  refine GW_skip ?_
  refine GW_seq ?_
  refine GW_region ?_
  refine GL_call (wn_none rfl) rfl rfl (agi_New _) rfl ?_
  rintro _ w ⟨gq, rfl, hk⟩
  have hp := hp.comp hk
  have hp := hp.nilRow 145 3
  refine GL_rd (v := .pointer (some ⟨_, _, none⟩)) (wn_none rfl) rfl (rd_assign rfl rfl) ?_
  refine GL_nil ?_
  refine GW_seq ?_
  refine GW_seq ?_
  refine GW_region ?_
  refine GL_rd (v := .pointer (some ⟨_, _, none⟩)) (wn_none rfl) rfl (rd_move rfl rfl) ?_
  refine GL_rd (wn_none rfl) rfl (rd_bin rfl rfl rfl (bo_pnil Try.underlying24)) ?_
  refine GL_nil ?_
  refine GW_false rfl ?_
  refine GW_skip ?_
  refine GW_seq ?_
  refine GW_region ?_
  refine GL_rd (v := .slice _ _ _) (wn_none rfl) rfl (rd_assign rfl rfl) ?_
  refine GL_nil ?_
  refine GW_seq ?_
  refine GW_seq ?_
  refine GW_region ?_
  refine GL_rd (v := .int _ _) (wn_none rfl) rfl (rd_assign rfl rfl) ?_
  refine GL_nil ?_
  refine GW_block ?_
  refine GW_loop ?_
  refine Lp_ind (α := Nat × List (It Int) × List (It Int) × Nat × Value × Value × Res) (fun a_0 f_0 w' => match a_0 with | (i, M, hh, n, sv2, mv, r) => ∃ fz, f_0 = (upd (upd (upd (upd fz 0 (.slice A k c)) 3 (.pointer (some ⟨gq, 0, none⟩))) 4 (mv)) 5 (.int .i64 (i : Int))) ∧ Hp w0 [] w' [r, .row 145 3 sv2 hh.length (hh.flatMap (itC (Value.int .i64))), cells gq 143 [sv2, .int .i64 (n : Int)]] ∧ (i ≤ k) ∧ (Rep hh M n) ∧ (n ≤ i) ∧ (M.length ≤ n) ∧ (∀ w, r.at_ w → Sl w mv 2 M.length ((M.map prI).flatMap prC))) (fun a_0 => match a_0 with | (i, M, hh, n, sv2, mv, r) => k - i) ?_ (0, [], [], 0, .slice none 0 0, .slice none 0 0, .row 32 2 (.slice none 0 0) 0 []) _ _ ?_
  ·rintro ⟨i, M, hh, n, sv2, mv, r⟩ f wz ⟨fz, rfl, hp, hik, hrp, hni, hMn, hmv⟩ ihL0
   obtain ⟨Am, cm, rfl⟩ := sl_shape (hmv _ (hp.get 0 rfl))
   refine Lp_round ?_
   refine GW_seq ?_
   refine GW_seq ?_
   refine GW_region ?_
   refine GL_rd (v := .int _ _) (wn_none rfl) rfl (rd_move rfl rfl) ?_
   refine GL_rd (v := .slice _ _ _) (wn_none rfl) rfl (rd_move rfl rfl) ?_
   refine GL_rd (wn_none rfl) rfl (rd_len rfl rfl Try.underlying22) ?_
   refine GL_rd (wn_none rfl) rfl (rd_bin rfl rfl rfl bo_lss) ?_
   refine GL_nil ?_
   refine GW_cond rfl (fun hb2 => ?_) (fun hb2 => ?_)
   ·(try simp only [decide_eq_true_eq, decide_eq_false_iff_not, Bool.not_eq_true', Bool.not_eq_false', Bool.not_eq_eq_eq_not, Bool.not_true, Bool.not_false, Int.not_lt, Int.not_le] at hb2)
    obtain ⟨y, hy⟩ : ∃ y, l[i]? = some y := ⟨_, List.getElem?_eq_getElem (by omega)⟩
    obtain ⟨gL, bL, rfl⟩ := hs.addr (by rw [flat_length trC_len]; omega)
    have hhl := hrp.len
    refine GW_skip ?_
    refine GW_seq ?_
    refine GW_block ?_
    refine GW_cut (fun f_0 w' => ∃ (M2 : List (It Int)) (hh2 : List (It Int)) (n2 : Nat) (sv2b : Value) (mv2 : Value) (r2 : Res) (fz : _), f_0 = (upd (upd (upd (upd fz 0 (.slice (some ⟨gL, bL, none⟩) k c)) 3 (.pointer (some ⟨gq, 0, none⟩))) 4 (mv2)) 5 (.int .i64 (i : Int))) ∧ Hp w0 [] w' [r2, .row 145 3 sv2b hh2.length (hh2.flatMap (itC (Value.int .i64))), cells gq 143 [sv2b, .int .i64 (n2 : Int)]] ∧ (Rep hh2 M2 n2) ∧ (n2 ≤ i + 1) ∧ (M2.length ≤ n2) ∧ (∀ w, r2.at_ w → Sl w mv2 2 M2.length ((M2.map prI).flatMap prC))) ?_ ?_
    ·skip
     refine GW_seq ?_
     refine GW_region ?_
     refine GL_rd (v := .slice _ _ _) (wn_none rfl) rfl (rd_move rfl rfl) ?_
     refine GL_rd (v := .int _ _) (wn_none rfl) rfl (rd_move rfl rfl) ?_
     refine GL_rd (wn_none rfl) rfl (rd_indexS (j := i) rfl rfl rfl Try.underlying22 ts28 rfl (by omega) _ rfl) ?_
     refine GL_rd (wn_none rfl) rfl (rd_field rfl rfl fa28_0 _ rfl) ?_
     refine GL_rd (wn_none rfl) rfl (rd_load rfl rfl Try.underlying3 rfl ((hs.keep hp.mod).get _ _ (tr_cell (j := 0) hy rfl (by decide)))) ?_
     refine GL_nil ?_
     refine GW_block ?_
     refine GW_seq ?_
     refine GW_seq ?_
     refine GW_region ?_
     refine GL_rd (wn_none rfl) rfl (rd_bin rfl rfl rfl bo_eql) ?_
     refine GL_rd (v := .bool _) (wn_none rfl) rfl (rd_assign rfl rfl) ?_
     refine GL_nil ?_
     refine GW_cond rfl (fun hb3 => ?_) (fun hb3 => ?_)
     ·(try simp only [decide_eq_true_eq, decide_eq_false_iff_not, Bool.not_eq_true', Bool.not_eq_false', Bool.not_eq_eq_eq_not, Bool.not_true, Bool.not_false, Int.not_lt, Int.not_le] at hb3)
      have hkz := hb3
      refine GW_skip ?_
      refine GW_cond rfl (fun hb4 => ?_) (fun hb4 => ?_)
      ·(try simp only [decide_eq_true_eq, decide_eq_false_iff_not, Bool.not_eq_true', Bool.not_eq_false', Bool.not_eq_eq_eq_not, Bool.not_true, Bool.not_false, Int.not_lt, Int.not_le] at hb4)
       refine GW_seq ?_
       refine GW_drawnK 12 (.one 0 true (.one 1 true (.one 2 true (.one 3 true (.one 4 true (.one 5 true (.one 6 true (.one 7 true (.one 8 true (.one 9 true (.one 10 true (.one 11 false .nil)))))))))))) mixed (by kernel_rfl) hp (fun _ h => h.mods) fun w hp => ?_
       have hpS := hp.mods
       refine GO_rdT (v := .pointer (some ⟨_, _, none⟩)) rfl (wn_none rfl) rfl (fun w => (rd_move rfl rfl)) ?_
       refine GO_rdT (v := .slice _ _ _) rfl (wn_none rfl) rfl (fun w => (rd_move rfl rfl)) ?_
       refine GO_rdT (v := .int _ _) rfl (wn_none rfl) rfl (fun w => (rd_move rfl rfl)) ?_
       refine GO_rdT rfl (wn_none rfl) rfl (fun w => (rd_indexS (j := i) rfl rfl rfl Try.underlying22 ts28 rfl (by omega) _ rfl)) ?_
       refine GO_rdT rfl (wn_none rfl) rfl (fun w => (rd_field rfl rfl fa28_1 _ rfl)) ?_
       refine GO_rd rfl rfl (wn_none rfl) rfl hpS (fun w hp => (rd_load rfl rfl Try.underlying3 rfl ((hs.keep hp.mod).get _ _ (tr_cell (j := 1) hy rfl (by decide))))) ?_
       refine GO_rdT (v := .slice _ _ _) rfl (wn_none rfl) rfl (fun w => (rd_move rfl rfl)) ?_
       refine GO_rdT (v := .int _ _) rfl (wn_none rfl) rfl (fun w => (rd_move rfl rfl)) ?_
       refine GO_rdT rfl (wn_none rfl) rfl (fun w => (rd_indexS (j := i) rfl rfl rfl Try.underlying22 ts28 rfl (by omega) _ rfl)) ?_
       refine GO_rdT rfl (wn_none rfl) rfl (fun w => (rd_field rfl rfl fa28_2 _ rfl)) ?_
       refine GO_rd rfl rfl (wn_none rfl) rfl hpS (fun w hp => (rd_load rfl rfl Try.underlying3 rfl ((hs.keep hp.mod).get _ _ (tr_cell (j := 2) hy rfl (by decide))))) ?_
       have hp := ((hp.front 1 rfl).front 2 rfl)
       refine GO_of_GL rfl ?_
       refine GL_call (wn_none rfl) rfl rfl (agi_Add gq _ n hh.length hh _ (y.2.1) (y.2.2) _ (by omega) (by omega) hrp.heap (hp.ownsT 2)) rfl ?_
       rintro _ w ⟨svA, hA, rfl, hpmA, hhpA, hk⟩
       have hp := hp.turnsT 2 hk
       have hrA := hrp.add (x := ⟨y.2.1, n, y.2.2⟩) rfl hpmA hhpA
       have hlA : hA.length = hh.length + 1 := by rw [hpmA.length_eq, List.length_append]; rfl
       rw [← hlA] at hp
       have hpS2 := hp.mods
       refine GL_nil ⟨fun _ => hpS2, ?_⟩
       refine GO_nil ?_
       refine GW_drawnK 14 (.one 0 true (.one 1 true (.one 2 true (.one 3 true (.one 4 true (.one 5 true (.one 6 true (.one 7 true (.one 8 true (.one 9 true (.one 10 true (.one 11 true (.one 12 false (.one 13 true .nil)))))))))))))) mixed (by kernel_rfl) hp (fun _ h => h.mods) fun w hp => ?_
       have hpS3 := hp.mods
       refine GO_rdT (v := .slice _ _ _) rfl (wn_none rfl) rfl (fun w => (rd_move rfl rfl)) ?_
       refine GO_rdT (v := .slice _ _ _) rfl (wn_none rfl) rfl (fun w => (rd_move rfl rfl)) ?_
       refine GO_rdT (v := .int _ _) rfl (wn_none rfl) rfl (fun w => (rd_move rfl rfl)) ?_
       refine GO_rdT rfl (wn_none rfl) rfl (fun w => (rd_indexS (j := i) rfl rfl rfl Try.underlying22 ts28 rfl (by omega) _ rfl)) ?_
       refine GO_rdT rfl (wn_none rfl) rfl (fun w => (rd_field rfl rfl fa28_1 _ rfl)) ?_
       refine GO_rd rfl rfl (wn_none rfl) rfl hpS3 (fun w hp => (rd_load rfl rfl Try.underlying3 rfl ((hs.keep hp.mod).get _ _ (tr_cell (j := 1) hy rfl (by decide))))) ?_
       refine GO_rdT (v := .slice _ _ _) rfl (wn_none rfl) rfl (fun w => (rd_move rfl rfl)) ?_
       refine GO_rdT (v := .int _ _) rfl (wn_none rfl) rfl (fun w => (rd_move rfl rfl)) ?_
       refine GO_rdT rfl (wn_none rfl) rfl (fun w => (rd_indexS (j := i) rfl rfl rfl Try.underlying22 ts28 rfl (by omega) _ rfl)) ?_
       refine GO_rdT rfl (wn_none rfl) rfl (fun w => (rd_field rfl rfl fa28_2 _ rfl)) ?_
       refine GO_rd rfl rfl (wn_none rfl) rfl hpS3 (fun w hp => (rd_load rfl rfl Try.underlying3 rfl ((hs.keep hp.mod).get _ _ (tr_cell (j := 2) hy rfl (by decide))))) ?_
       refine GO_rd rfl rfl (wn_none rfl) rfl hpS3 (fun w hp => (rd_buildS (L := prC (y.2.1, y.2.2)) rfl tz32 pl32 (by kernel_rfl))) ?_
       refine GO_of_GL rfl ?_
       refine GL_call (wn_none rfl) rfl rfl (ref_agAdd _ M.length (M.map prI) (y.2.1, y.2.2) _ (hmv _ (hp.get 2 rfl)) (by omega)) rfl ?_
       intro nv w hk
       have hp := hp.comp hk
       have hpS4 := hp.mods
       refine GL_nil ⟨fun _ => hpS4, ?_⟩
       refine GO_rdT (v := nv) rfl (wn_none rfl) rfl (fun w => (rd_assign rfl rfl)) ?_
       refine GO_nil ?_
       have hp := ((((hp.front 1 rfl).front 2 rfl).front 2 rfl).take 3)
       have e1 := ins_map prI (fun _ => rfl) ⟨y.2.1, n, y.2.2⟩ M
       have hp : Hp w0 [] w [.row 32 2 nv (insI ⟨y.2.1, n, y.2.2⟩ M).length (((insI ⟨y.2.1, n, y.2.2⟩ M).map prI).flatMap prC), .row 145 3 svA hA.length (hA.flatMap (itC (Value.int .i64))), cells gq 143 [svA, .int .i64 ((n + 1 : Nat) : Int)]] := by rw [insI_length, ← e1]; exact hp
       exact ⟨(insI ⟨y.2.1, n, y.2.2⟩ M), hA, (n + 1), svA, nv, .row 32 2 nv (insI ⟨y.2.1, n, y.2.2⟩ M).length (((insI ⟨y.2.1, n, y.2.2⟩ M).map prI).flatMap prC), _, slots4 rfl rfl rfl rfl, hp, hrA, by omega, by rw [insI_length]; omega, fun w h => Sl.row h⟩
      ·(try simp only [decide_eq_true_eq, decide_eq_false_iff_not, Bool.not_eq_true', Bool.not_eq_false', Bool.not_eq_eq_eq_not, Bool.not_true, Bool.not_false, Int.not_lt, Int.not_le] at hb4)
       exact absurd hkz hb4
     ·(try simp only [decide_eq_true_eq, decide_eq_false_iff_not, Bool.not_eq_true', Bool.not_eq_false', Bool.not_eq_eq_eq_not, Bool.not_true, Bool.not_false, Int.not_lt, Int.not_le] at hb3)
      refine GW_region ?_
      refine GL_rd (wn_none rfl) rfl (rd_bin rfl rfl rfl bo_eql) ?_
      refine GL_rd (v := .bool _) (wn_none rfl) rfl (rd_assign rfl rfl) ?_
      refine GL_nil ?_
      refine GW_cond rfl (fun hb5 => ?_) (fun hb5 => ?_)
      ·(try simp only [decide_eq_true_eq, decide_eq_false_iff_not, Bool.not_eq_true', Bool.not_eq_false', Bool.not_eq_eq_eq_not, Bool.not_true, Bool.not_false, Int.not_lt, Int.not_le] at hb5)
       refine GW_seq ?_
       refine GW_drawnK 12 (.one 0 true (.one 1 true (.one 2 true (.one 3 true (.one 4 true (.one 5 true (.one 6 true (.one 7 true (.one 8 true (.one 9 true (.one 10 true (.one 11 false .nil)))))))))))) mixed (by kernel_rfl) hp (fun _ h => h.mods) fun w hp => ?_
       have hpS5 := hp.mods
       refine GO_rdT (v := .pointer (some ⟨_, _, none⟩)) rfl (wn_none rfl) rfl (fun w => (rd_move rfl rfl)) ?_
       refine GO_rdT (v := .slice _ _ _) rfl (wn_none rfl) rfl (fun w => (rd_move rfl rfl)) ?_
       refine GO_rdT (v := .int _ _) rfl (wn_none rfl) rfl (fun w => (rd_move rfl rfl)) ?_
       refine GO_rdT rfl (wn_none rfl) rfl (fun w => (rd_indexS (j := i) rfl rfl rfl Try.underlying22 ts28 rfl (by omega) _ rfl)) ?_
       refine GO_rdT rfl (wn_none rfl) rfl (fun w => (rd_field rfl rfl fa28_1 _ rfl)) ?_
       refine GO_rd rfl rfl (wn_none rfl) rfl hpS5 (fun w hp => (rd_load rfl rfl Try.underlying3 rfl ((hs.keep hp.mod).get _ _ (tr_cell (j := 1) hy rfl (by decide))))) ?_
       refine GO_rdT (v := .slice _ _ _) rfl (wn_none rfl) rfl (fun w => (rd_move rfl rfl)) ?_
       refine GO_rdT (v := .int _ _) rfl (wn_none rfl) rfl (fun w => (rd_move rfl rfl)) ?_
       refine GO_rdT rfl (wn_none rfl) rfl (fun w => (rd_indexS (j := i) rfl rfl rfl Try.underlying22 ts28 rfl (by omega) _ rfl)) ?_
       refine GO_rdT rfl (wn_none rfl) rfl (fun w => (rd_field rfl rfl fa28_2 _ rfl)) ?_
       refine GO_rd rfl rfl (wn_none rfl) rfl hpS5 (fun w hp => (rd_load rfl rfl Try.underlying3 rfl ((hs.keep hp.mod).get _ _ (tr_cell (j := 2) hy rfl (by decide))))) ?_
       have hp := ((hp.front 1 rfl).front 2 rfl)
       refine GO_of_GL rfl ?_
       refine GL_call (wn_none rfl) rfl rfl (agi_Add gq _ n hh.length hh _ (y.2.1) (y.2.2) _ (by omega) (by omega) hrp.heap (hp.ownsT 2)) rfl ?_
       rintro _ w ⟨svA, hA, rfl, hpmA, hhpA, hk⟩
       have hp := hp.turnsT 2 hk
       have hrA := hrp.add (x := ⟨y.2.1, n, y.2.2⟩) rfl hpmA hhpA
       have hlA : hA.length = hh.length + 1 := by rw [hpmA.length_eq, List.length_append]; rfl
       rw [← hlA] at hp
       have hpS6 := hp.mods
       refine GL_nil ⟨fun _ => hpS6, ?_⟩
       refine GO_nil ?_
       refine GW_drawnK 14 (.one 0 true (.one 1 true (.one 2 true (.one 3 true (.one 4 true (.one 5 true (.one 6 true (.one 7 true (.one 8 true (.one 9 true (.one 10 true (.one 11 true (.one 12 false (.one 13 true .nil)))))))))))))) mixed (by kernel_rfl) hp (fun _ h => h.mods) fun w hp => ?_
       have hpS7 := hp.mods
       refine GO_rdT (v := .slice _ _ _) rfl (wn_none rfl) rfl (fun w => (rd_move rfl rfl)) ?_
       refine GO_rdT (v := .slice _ _ _) rfl (wn_none rfl) rfl (fun w => (rd_move rfl rfl)) ?_
       refine GO_rdT (v := .int _ _) rfl (wn_none rfl) rfl (fun w => (rd_move rfl rfl)) ?_
       refine GO_rdT rfl (wn_none rfl) rfl (fun w => (rd_indexS (j := i) rfl rfl rfl Try.underlying22 ts28 rfl (by omega) _ rfl)) ?_
       refine GO_rdT rfl (wn_none rfl) rfl (fun w => (rd_field rfl rfl fa28_1 _ rfl)) ?_
       refine GO_rd rfl rfl (wn_none rfl) rfl hpS7 (fun w hp => (rd_load rfl rfl Try.underlying3 rfl ((hs.keep hp.mod).get _ _ (tr_cell (j := 1) hy rfl (by decide))))) ?_
       refine GO_rdT (v := .slice _ _ _) rfl (wn_none rfl) rfl (fun w => (rd_move rfl rfl)) ?_
       refine GO_rdT (v := .int _ _) rfl (wn_none rfl) rfl (fun w => (rd_move rfl rfl)) ?_
       refine GO_rdT rfl (wn_none rfl) rfl (fun w => (rd_indexS (j := i) rfl rfl rfl Try.underlying22 ts28 rfl (by omega) _ rfl)) ?_
       refine GO_rdT rfl (wn_none rfl) rfl (fun w => (rd_field rfl rfl fa28_2 _ rfl)) ?_
       refine GO_rd rfl rfl (wn_none rfl) rfl hpS7 (fun w hp => (rd_load rfl rfl Try.underlying3 rfl ((hs.keep hp.mod).get _ _ (tr_cell (j := 2) hy rfl (by decide))))) ?_
       refine GO_rd rfl rfl (wn_none rfl) rfl hpS7 (fun w hp => (rd_buildS (L := prC (y.2.1, y.2.2)) rfl tz32 pl32 (by kernel_rfl))) ?_
       refine GO_of_GL rfl ?_
       refine GL_call (wn_none rfl) rfl rfl (ref_agAdd _ M.length (M.map prI) (y.2.1, y.2.2) _ (hmv _ (hp.get 2 rfl)) (by omega)) rfl ?_
       intro nv w hk
       have hp := hp.comp hk
       have hpS8 := hp.mods
       refine GL_nil ⟨fun _ => hpS8, ?_⟩
       refine GO_rdT (v := nv) rfl (wn_none rfl) rfl (fun w => (rd_assign rfl rfl)) ?_
       refine GO_nil ?_
       have hp := ((((hp.front 1 rfl).front 2 rfl).front 2 rfl).take 3)
       have e1 := ins_map prI (fun _ => rfl) ⟨y.2.1, n, y.2.2⟩ M
       have hp : Hp w0 [] w [.row 32 2 nv (insI ⟨y.2.1, n, y.2.2⟩ M).length (((insI ⟨y.2.1, n, y.2.2⟩ M).map prI).flatMap prC), .row 145 3 svA hA.length (hA.flatMap (itC (Value.int .i64))), cells gq 143 [svA, .int .i64 ((n + 1 : Nat) : Int)]] := by rw [insI_length, ← e1]; exact hp
       exact ⟨(insI ⟨y.2.1, n, y.2.2⟩ M), hA, (n + 1), svA, nv, .row 32 2 nv (insI ⟨y.2.1, n, y.2.2⟩ M).length (((insI ⟨y.2.1, n, y.2.2⟩ M).map prI).flatMap prC), _, slots4 rfl rfl rfl rfl, hp, hrA, by omega, by rw [insI_length]; omega, fun w h => Sl.row h⟩
      ·(try simp only [decide_eq_true_eq, decide_eq_false_iff_not, Bool.not_eq_true', Bool.not_eq_false', Bool.not_eq_eq_eq_not, Bool.not_true, Bool.not_false, Int.not_lt, Int.not_le] at hb5)
       refine GW_seq ?_
       refine GW_region ?_
       refine GL_rd (wn_none rfl) rfl (rd_bin rfl rfl rfl bo_eql) ?_
       refine GL_rd (v := .bool _) (wn_none rfl) rfl (rd_assign rfl rfl) ?_
       refine GL_nil ?_
       refine GW_cond rfl (fun hb6 => ?_) (fun hb6 => ?_)
       ·(try simp only [decide_eq_true_eq, decide_eq_false_iff_not, Bool.not_eq_true', Bool.not_eq_false', Bool.not_eq_eq_eq_not, Bool.not_true, Bool.not_false, Int.not_lt, Int.not_le] at hb6)
        refine GW_seq ?_
        cases hdu : dueB M y.2.1 with
        | false =>
         refine GW_region ?_
         refine GL_rd (v := .pointer (some ⟨_, _, none⟩)) (wn_none rfl) rfl (rd_move rfl rfl) ?_
         refine GL_rd (v := .slice _ _ _) (wn_none rfl) rfl (rd_move rfl rfl) ?_
         refine GL_rd (v := .int _ _) (wn_none rfl) rfl (rd_move rfl rfl) ?_
         refine GL_rd (wn_none rfl) rfl (rd_indexS (j := i) rfl rfl rfl Try.underlying22 ts28 rfl (by omega) _ rfl) ?_
         refine GL_rd (wn_none rfl) rfl (rd_field rfl rfl fa28_1 _ rfl) ?_
         refine GL_rd (wn_none rfl) rfl (rd_load rfl rfl Try.underlying3 rfl ((hs.keep hp.mod).get _ _ (tr_cell (j := 1) hy rfl (by decide)))) ?_
         have hp := ((hp.front 1 rfl).front 2 rfl)
         refine GL_call (wn_none rfl) rfl rfl (agi_Take gq _ n hh.length hh _ M (y.2.1) _ (by omega) hrp (hp.ownsT 2)) rfl ?_
         rintro _ w ⟨svT, hT, rfl, hrT, hk⟩
         have hp := hp.turnsT 2 hk
         rw [hdu]
         refine GL_rd (v := .tuple _) (wn_none rfl) rfl (rd_move rfl rfl) ?_
         refine GL_rd (v := _) (wn_none rfl) rfl (rd_extract rfl rfl rfl) ?_
         refine GL_rd (v := .bool _) (wn_none rfl) rfl (rd_extract rfl rfl rfl) ?_
         refine GL_rd (v := _) (wn_none rfl) rfl (rd_assign rfl rfl) ?_
         refine GL_rd (v := .bool _) (wn_none rfl) rfl (rd_assign rfl rfl) ?_
         refine GL_nil ?_
         refine GW_seq ?_
         refine GW_drawnK 16 (.one 0 true (.one 1 true (.one 2 true (.one 3 true (.one 4 true (.one 5 true (.one 6 true (.one 7 true (.one 8 true (.one 9 true (.one 10 true (.one 11 true (.one 12 true (.one 13 true (.one 14 true (.one 15 true .nil)))))))))))))))) mixed (by kernel_rfl) hp (fun _ h => (h.sub (.cons _ (.cons _ (.cons_cons _ .slnil))))) fun w hp => ?_
         have hpS9 := (hp.sub (.cons _ (.cons _ (.cons_cons _ .slnil))))
         refine GO_rdT (v := .slice _ _ _) rfl (wn_none rfl) rfl (fun w => (rd_move rfl rfl)) ?_
         refine GO_rd rfl rfl (wn_none rfl) rfl hpS9 (fun w hp => (rd_len rfl rfl Try.underlying26)) ?_
         refine GO_rd rfl rfl (wn_none rfl) rfl hpS9 (fun w hp => (rd_bin rfl rfl rfl bo_gtr)) ?_
         refine GO_rdT (v := .bool _) rfl (wn_none rfl) rfl (fun w => (rd_move rfl rfl)) ?_
         refine GO_split (t := 73) (b := _) rfl ?_ ?_
         ·intro hb7; (try simp only [decide_eq_true_eq, decide_eq_false_iff_not, Bool.not_eq_true', Bool.not_eq_false', Bool.not_eq_eq_eq_not, Bool.not_true, Bool.not_false, Int.not_lt, Int.not_le] at hb7)
          have hM0 : 0 < M.length := by have := hb7; omega
          obtain ⟨gM, bM, rfl⟩ := (hmv _ (hp.get 2 rfl)).addr (by rw [flat_length prC_len, List.length_map]; omega)
          have hle := of_decide_eq_false ((dueB_of hM0).symm.trans hdu)
          refine GO_rdT (v := .slice _ _ _) rfl (wn_on rfl rfl rfl rfl) rfl (fun w => (rd_move rfl rfl)) ?_
          refine GO_rdT rfl (wn_on rfl rfl rfl rfl) rfl (fun w => (rd_indexS (j := 0) rfl rfl rfl Try.underlying26 ts32 rfl hM0 _ rfl)) ?_
          refine GO_rdT rfl (wn_on rfl rfl rfl rfl) rfl (fun w => (rd_field rfl rfl fa32_0 _ rfl)) ?_
          refine GO_rd rfl rfl (wn_on rfl rfl rfl rfl) rfl hpS9 (fun w hp => (rd_load rfl rfl Try.underlying3 rfl (pr_head prI (hmv _ (hp.get 0 rfl)) hM0 0 _ rfl))) ?_
          refine GO_rdT (v := .slice _ _ _) rfl (wn_on rfl rfl rfl rfl) rfl (fun w => (rd_move rfl rfl)) ?_
          refine GO_rdT (v := .int _ _) rfl (wn_on rfl rfl rfl rfl) rfl (fun w => (rd_move rfl rfl)) ?_
          refine GO_rdT rfl (wn_on rfl rfl rfl rfl) rfl (fun w => (rd_indexS (j := i) rfl rfl rfl Try.underlying22 ts28 rfl (by omega) _ rfl)) ?_
          refine GO_rdT rfl (wn_on rfl rfl rfl rfl) rfl (fun w => (rd_field rfl rfl fa28_1 _ rfl)) ?_
          refine GO_rd rfl rfl (wn_on rfl rfl rfl rfl) rfl hpS9 (fun w hp => (rd_load rfl rfl Try.underlying3 rfl ((hs.keep hp.mod).get _ _ (tr_cell (j := 1) hy rfl (by decide))))) ?_
          refine GO_rd rfl rfl (wn_on rfl rfl rfl rfl) rfl hpS9 (fun w hp => (rd_bin rfl rfl rfl (bo_boolE bo_leq (decide_eq_false hle)))) ?_
          refine GO_rdT (v := .bool _) rfl (wn_none rfl) rfl (fun w => (rd_pickT rfl rfl rfl)) ?_
          refine GO_rdT (v := .bool _) rfl (wn_none rfl) rfl (fun w => (rd_assign rfl rfl)) ?_
          refine GO_nil ?_
          refine GW_seq ?_
          refine GW_seq ?_
          refine GW_region ?_
          refine GL_rd (v := .bool _) (wn_none rfl) rfl (rd_move rfl rfl) ?_
          refine GL_rd (v := .bool _) (wn_none rfl) rfl (rd_move rfl rfl) ?_
          refine GL_rd (wn_none rfl) rfl (rd_bin rfl rfl rfl (bo_boolE (bo_bneq Try.underlying4) rfl)) ?_
          refine GL_rd (v := .bool _) (wn_none rfl) rfl (rd_move rfl rfl) ?_
          refine GL_rd (v := .bool _) (wn_on rfl rfl rfl rfl) rfl (rd_move rfl rfl) ?_
          refine GL_rd (v := .bool _) (wn_on rfl rfl rfl rfl) rfl (rd_move rfl rfl) ?_
          refine GL_pass (nw_off rfl rfl rfl rfl rfl) rfl ?_
          refine GL_pass (nw_off rfl rfl rfl rfl rfl) rfl ?_
          refine GL_pass (nw_off rfl rfl rfl rfl rfl) rfl ?_
          refine GL_pass (nw_off rfl rfl rfl rfl rfl) rfl ?_
          refine GL_pass (nw_off rfl rfl rfl rfl rfl) rfl ?_
          refine GL_pass (nw_off rfl rfl rfl rfl rfl) rfl ?_
          refine GL_rd (v := .bool _) (wn_on rfl rfl rfl rfl) rfl (rd_pickF rfl rfl rfl) ?_
          refine GL_rd (v := .bool _) (wn_none rfl) rfl (rd_pickF rfl rfl rfl) ?_
          refine GL_nil ?_
          refine GW_false rfl ?_
          refine GW_skip ?_
          refine GW_seq ?_
          refine GW_region ?_
          refine GL_rd (v := .bool _) (wn_none rfl) rfl (rd_move rfl rfl) ?_
          refine GL_nil ?_
          refine GW_false rfl ?_
          refine GW_skip ?_
          have hp := ((((hp.front 0 rfl).front 1 rfl).front 2 rfl).take 3)
          rw [leftI_all hdu] at hrT
          exact ⟨M, hT, n, svT, _, r, _, slots4 rfl rfl rfl rfl, hp, hrT, by omega, hMn, hmv⟩
         ·intro hb7; (try simp only [decide_eq_true_eq, decide_eq_false_iff_not, Bool.not_eq_true', Bool.not_eq_false', Bool.not_eq_eq_eq_not, Bool.not_true, Bool.not_false, Int.not_lt, Int.not_le] at hb7)
          refine GO_pass rfl (nw_off rfl rfl rfl rfl rfl) rfl ?_
          refine GO_pass rfl (nw_off rfl rfl rfl rfl rfl) rfl ?_
          refine GO_pass rfl (nw_off rfl rfl rfl rfl rfl) rfl ?_
          refine GO_pass rfl (nw_off rfl rfl rfl rfl rfl) rfl ?_
          refine GO_pass rfl (nw_off rfl rfl rfl rfl rfl) rfl ?_
          refine GO_pass rfl (nw_off rfl rfl rfl rfl rfl) rfl ?_
          refine GO_pass rfl (nw_off rfl rfl rfl rfl rfl) rfl ?_
          refine GO_pass rfl (nw_off rfl rfl rfl rfl rfl) rfl ?_
          refine GO_pass rfl (nw_off rfl rfl rfl rfl rfl) rfl ?_
          refine GO_pass rfl (nw_off rfl rfl rfl rfl rfl) rfl ?_
          refine GO_rdT (v := .bool _) rfl (wn_none rfl) rfl (fun w => (rd_pickF rfl rfl rfl)) ?_
          refine GO_rdT (v := .bool _) rfl (wn_none rfl) rfl (fun w => (rd_assign rfl rfl)) ?_
          refine GO_nil ?_
          refine GW_seq ?_
          refine GW_seq ?_
          refine GW_region ?_
          refine GL_rd (v := .bool _) (wn_none rfl) rfl (rd_move rfl rfl) ?_
          refine GL_rd (v := .bool _) (wn_none rfl) rfl (rd_move rfl rfl) ?_
          refine GL_rd (wn_none rfl) rfl (rd_bin rfl rfl rfl (bo_boolE (bo_bneq Try.underlying4) rfl)) ?_
          refine GL_rd (v := .bool _) (wn_none rfl) rfl (rd_move rfl rfl) ?_
          refine GL_rd (v := .bool _) (wn_on rfl rfl rfl rfl) rfl (rd_move rfl rfl) ?_
          refine GL_rd (v := .bool _) (wn_on rfl rfl rfl rfl) rfl (rd_move rfl rfl) ?_
          refine GL_pass (nw_off rfl rfl rfl rfl rfl) rfl ?_
          refine GL_pass (nw_off rfl rfl rfl rfl rfl) rfl ?_
          refine GL_pass (nw_off rfl rfl rfl rfl rfl) rfl ?_
          refine GL_pass (nw_off rfl rfl rfl rfl rfl) rfl ?_
          refine GL_pass (nw_off rfl rfl rfl rfl rfl) rfl ?_
          refine GL_pass (nw_off rfl rfl rfl rfl rfl) rfl ?_
          refine GL_rd (v := .bool _) (wn_on rfl rfl rfl rfl) rfl (rd_pickF rfl rfl rfl) ?_
          refine GL_rd (v := .bool _) (wn_none rfl) rfl (rd_pickF rfl rfl rfl) ?_
          refine GL_nil ?_
          refine GW_false rfl ?_
          refine GW_skip ?_
          refine GW_seq ?_
          refine GW_region ?_
          refine GL_rd (v := .bool _) (wn_none rfl) rfl (rd_move rfl rfl) ?_
          refine GL_nil ?_
          refine GW_false rfl ?_
          refine GW_skip ?_
          have hp := ((((hp.front 0 rfl).front 1 rfl).front 2 rfl).take 3)
          rw [leftI_all hdu] at hrT
          exact ⟨M, hT, n, svT, _, r, _, slots4 rfl rfl rfl rfl, hp, hrT, by omega, hMn, hmv⟩
        | true =>
         refine GW_region ?_
         refine GL_rd (v := .pointer (some ⟨_, _, none⟩)) (wn_none rfl) rfl (rd_move rfl rfl) ?_
         refine GL_rd (v := .slice _ _ _) (wn_none rfl) rfl (rd_move rfl rfl) ?_
         refine GL_rd (v := .int _ _) (wn_none rfl) rfl (rd_move rfl rfl) ?_
         refine GL_rd (wn_none rfl) rfl (rd_indexS (j := i) rfl rfl rfl Try.underlying22 ts28 rfl (by omega) _ rfl) ?_
         refine GL_rd (wn_none rfl) rfl (rd_field rfl rfl fa28_1 _ rfl) ?_
         refine GL_rd (wn_none rfl) rfl (rd_load rfl rfl Try.underlying3 rfl ((hs.keep hp.mod).get _ _ (tr_cell (j := 1) hy rfl (by decide)))) ?_
         have hp := ((hp.front 1 rfl).front 2 rfl)
         refine GL_call (wn_none rfl) rfl rfl (agi_Take gq _ n hh.length hh _ M (y.2.1) _ (by omega) hrp (hp.ownsT 2)) rfl ?_
         rintro _ w ⟨svT, hT, rfl, hrT, hk⟩
         have hp := hp.turnsT 2 hk
         rw [hdu]
         refine GL_rd (v := .tuple _) (wn_none rfl) rfl (rd_move rfl rfl) ?_
         refine GL_rd (v := _) (wn_none rfl) rfl (rd_extract rfl rfl rfl) ?_
         refine GL_rd (v := .bool _) (wn_none rfl) rfl (rd_extract rfl rfl rfl) ?_
         refine GL_rd (v := _) (wn_none rfl) rfl (rd_assign rfl rfl) ?_
         refine GL_rd (v := .bool _) (wn_none rfl) rfl (rd_assign rfl rfl) ?_
         refine GL_nil ?_
         refine GW_seq ?_
         refine GW_drawnK 16 (.one 0 true (.one 1 true (.one 2 true (.one 3 true (.one 4 true (.one 5 true (.one 6 true (.one 7 true (.one 8 true (.one 9 true (.one 10 true (.one 11 true (.one 12 true (.one 13 true (.one 14 true (.one 15 true .nil)))))))))))))))) mixed (by kernel_rfl) hp (fun _ h => (h.sub (.cons _ (.cons _ (.cons_cons _ .slnil))))) fun w hp => ?_
         have hpS10 := (hp.sub (.cons _ (.cons _ (.cons_cons _ .slnil))))
         refine GO_rdT (v := .slice _ _ _) rfl (wn_none rfl) rfl (fun w => (rd_move rfl rfl)) ?_
         refine GO_rd rfl rfl (wn_none rfl) rfl hpS10 (fun w hp => (rd_len rfl rfl Try.underlying26)) ?_
         refine GO_rd rfl rfl (wn_none rfl) rfl hpS10 (fun w hp => (rd_bin rfl rfl rfl bo_gtr)) ?_
         refine GO_rdT (v := .bool _) rfl (wn_none rfl) rfl (fun w => (rd_move rfl rfl)) ?_
         refine GO_split (t := 73) (b := _) rfl ?_ ?_
         ·intro hb8; (try simp only [decide_eq_true_eq, decide_eq_false_iff_not, Bool.not_eq_true', Bool.not_eq_false', Bool.not_eq_eq_eq_not, Bool.not_true, Bool.not_false, Int.not_lt, Int.not_le] at hb8)
          have hM0 : 0 < M.length := by have := hb8; omega
          obtain ⟨gM, bM, rfl⟩ := (hmv _ (hp.get 2 rfl)).addr (by rw [flat_length prC_len, List.length_map]; omega)
          have hle := (due_cons hdu).2
          refine GO_rdT (v := .slice _ _ _) rfl (wn_on rfl rfl rfl rfl) rfl (fun w => (rd_move rfl rfl)) ?_
          refine GO_rdT rfl (wn_on rfl rfl rfl rfl) rfl (fun w => (rd_indexS (j := 0) rfl rfl rfl Try.underlying26 ts32 rfl hM0 _ rfl)) ?_
          refine GO_rdT rfl (wn_on rfl rfl rfl rfl) rfl (fun w => (rd_field rfl rfl fa32_0 _ rfl)) ?_
          refine GO_rd rfl rfl (wn_on rfl rfl rfl rfl) rfl hpS10 (fun w hp => (rd_load rfl rfl Try.underlying3 rfl (pr_head prI (hmv _ (hp.get 0 rfl)) hM0 0 _ rfl))) ?_
          refine GO_rdT (v := .slice _ _ _) rfl (wn_on rfl rfl rfl rfl) rfl (fun w => (rd_move rfl rfl)) ?_
          refine GO_rdT (v := .int _ _) rfl (wn_on rfl rfl rfl rfl) rfl (fun w => (rd_move rfl rfl)) ?_
          refine GO_rdT rfl (wn_on rfl rfl rfl rfl) rfl (fun w => (rd_indexS (j := i) rfl rfl rfl Try.underlying22 ts28 rfl (by omega) _ rfl)) ?_
          refine GO_rdT rfl (wn_on rfl rfl rfl rfl) rfl (fun w => (rd_field rfl rfl fa28_1 _ rfl)) ?_
          refine GO_rd rfl rfl (wn_on rfl rfl rfl rfl) rfl hpS10 (fun w hp => (rd_load rfl rfl Try.underlying3 rfl ((hs.keep hp.mod).get _ _ (tr_cell (j := 1) hy rfl (by decide))))) ?_
          refine GO_rd rfl rfl (wn_on rfl rfl rfl rfl) rfl hpS10 (fun w hp => (rd_bin rfl rfl rfl (bo_boolE bo_leq (decide_eq_true hle)))) ?_
          refine GO_rdT (v := .bool _) rfl (wn_none rfl) rfl (fun w => (rd_pickT rfl rfl rfl)) ?_
          refine GO_rdT (v := .bool _) rfl (wn_none rfl) rfl (fun w => (rd_assign rfl rfl)) ?_
          refine GO_nil ?_
          refine GW_seq ?_
          refine GW_seq ?_
          refine GW_region ?_
          refine GL_rd (v := .bool _) (wn_none rfl) rfl (rd_move rfl rfl) ?_
          refine GL_rd (v := .bool _) (wn_none rfl) rfl (rd_move rfl rfl) ?_
          refine GL_rd (wn_none rfl) rfl (rd_bin rfl rfl rfl (bo_boolE (bo_bneq Try.underlying4) rfl)) ?_
          refine GL_rd (v := .bool _) (wn_none rfl) rfl (rd_move rfl rfl) ?_
          refine GL_rd (v := .bool _) (wn_on rfl rfl rfl rfl) rfl (rd_move rfl rfl) ?_
          refine GL_rd (v := .bool _) (wn_on rfl rfl rfl rfl) rfl (rd_move rfl rfl) ?_
          refine GL_rd (v := _) (wn_on rfl rfl rfl rfl) rfl (rd_move rfl rfl) ?_
          refine GL_rd (v := .slice _ _ _) (wn_on rfl rfl rfl rfl) rfl (rd_move rfl rfl) ?_
          refine GL_rd (wn_on rfl rfl rfl rfl) rfl (rd_indexS (j := 0) rfl rfl rfl Try.underlying26 ts32 rfl hM0 _ rfl) ?_
          refine GL_rd (wn_on rfl rfl rfl rfl) rfl (rd_field rfl rfl fa32_1 _ rfl) ?_
          refine GL_rd (wn_on rfl rfl rfl rfl) rfl (rd_load rfl rfl Try.underlying3 rfl (pr_head prI (hmv _ (hp.get 2 rfl)) hM0 1 _ rfl)) ?_
          refine GL_rd (wn_on rfl rfl rfl rfl) rfl (rd_bin rfl rfl rfl (bo_neqS rfl)) ?_
          refine GL_rd (v := .bool _) (wn_on rfl rfl rfl rfl) rfl (rd_pickT rfl rfl rfl) ?_
          refine GL_rd (v := .bool _) (wn_none rfl) rfl (rd_pickF rfl rfl rfl) ?_
          refine GL_nil ?_
          refine GW_false rfl ?_
          refine GW_skip ?_
          refine GW_seq ?_
          refine GW_region ?_
          refine GL_rd (v := .bool _) (wn_none rfl) rfl (rd_move rfl rfl) ?_
          refine GL_nil ?_
          refine GW_true rfl ?_
          refine GW_region ?_
          refine GL_rd (v := .slice _ _ _) (wn_none rfl) rfl (rd_move rfl rfl) ?_
          have hcm := (Sl.cap (hmv _ (hp.get 2 rfl))).1
          refine GL_rd (wn_none rfl) rfl (rd_sliceS (lo := 1) (hi := M.length) rfl rfl Try.underlying26 ts32 (at_some rfl rfl) to_none hM0 hcm) ?_
          refine GL_rd (v := .slice _ _ _) (wn_none rfl) rfl (rd_assign rfl rfl) ?_
          refine GL_nil ?_
          have hp := ((((hp.front 0 rfl).front 1 rfl).front 2 rfl).take 3)
          rw [leftI_tail hdu] at hrT
          exact ⟨M.tail, hT, n, svT, _, r, _, slots4 rfl rfl rfl rfl, hp, hrT, by omega, by rw [List.length_tail]; omega, fun w h => by rw [List.length_tail, List.map_tail]; exact cut_tail (hmv w h) hM0⟩
         ·intro hb8; (try simp only [decide_eq_true_eq, decide_eq_false_iff_not, Bool.not_eq_true', Bool.not_eq_false', Bool.not_eq_eq_eq_not, Bool.not_true, Bool.not_false, Int.not_lt, Int.not_le] at hb8)
          exact absurd hb8 (by have := congrArg List.length (due_cons hdu).1; simp only [List.length_cons] at this; omega)
       ·(try simp only [decide_eq_true_eq, decide_eq_false_iff_not, Bool.not_eq_true', Bool.not_eq_false', Bool.not_eq_eq_eq_not, Bool.not_true, Bool.not_false, Int.not_lt, Int.not_le] at hb6)
        refine GW_skip ?_
        have hp := ((((hp.front 2 rfl).front 2 rfl).front 2 rfl).take 3)
        exact ⟨M, hh, n, sv2, _, r, _, slots4 rfl rfl rfl rfl, hp, hrp, by omega, hMn, hmv⟩
    ·rintro f w ⟨M2, hh2, n2, sv2b, mv2, r2, fz, rfl, hp, hrp2, hni2, hMn2, hmv2⟩
     obtain ⟨Am2, cm2, rfl⟩ := sl_shape (hmv2 _ (hp.get 0 rfl))
     refine GW_seq ?_
     cases M2 with
     | nil =>
      have hl2 : hh2.length = 0 := hrp2.len
      refine GW_region ?_
      refine GL_rd (v := .pointer (some ⟨_, _, none⟩)) (wn_none rfl) rfl (rd_move rfl rfl) ?_
      refine GL_call (wn_none rfl) rfl rfl (agi_Next gq _ _ _ hh2 _ (hp.get 2 rfl) (Sl.row (hp.get 1 rfl))) rfl ?_
      rintro _ w ⟨rfl, hk⟩
      have hp := hp.comp hk
      rw [hl2]
      refine GL_rd (v := .tuple _) (wn_none rfl) rfl (rd_move rfl rfl) ?_
      refine GL_rd (v := .int _ _) (wn_none rfl) rfl (rd_extract rfl rfl rfl) ?_
      refine GL_rd (v := _) (wn_none rfl) rfl (rd_extract rfl rfl rfl) ?_
      refine GL_rd (v := .bool _) (wn_none rfl) rfl (rd_extract rfl rfl rfl) ?_
      refine GL_rd (v := .int _ _) (wn_none rfl) rfl (rd_assign rfl rfl) ?_
      refine GL_rd (v := _) (wn_none rfl) rfl (rd_assign rfl rfl) ?_
      refine GL_rd (v := .bool _) (wn_none rfl) rfl (rd_assign rfl rfl) ?_
      refine GL_nil ?_
      refine GW_seq ?_
      refine GW_region ?_
      refine GL_rd (v := .pointer (some ⟨_, _, none⟩)) (wn_none rfl) rfl (rd_move rfl rfl) ?_
      refine GL_call (wn_none rfl) rfl rfl (agi_Len gq _ _ _ hh2 _ (hp.get 2 rfl) (Sl.row (hp.get 1 rfl))) rfl ?_
      rintro _ w ⟨rfl, hk⟩
      have hp := hp.comp hk
      refine GL_rd (v := .slice _ _ _) (wn_none rfl) rfl (rd_move rfl rfl) ?_
      refine GL_rd (wn_none rfl) rfl (rd_len rfl rfl Try.underlying26) ?_
      refine GL_rd (wn_none rfl) rfl (rd_bin rfl rfl rfl bo_neq) ?_
      refine GL_rd (v := .bool _) (wn_none rfl) rfl (rd_move rfl rfl) ?_
      refine GL_split (t := 113) (b := _) rfl ?_ ?_
      ·intro hb9; (try simp only [decide_eq_true_eq, decide_eq_false_iff_not, Bool.not_eq_true', Bool.not_eq_false', Bool.not_eq_eq_eq_not, Bool.not_true, Bool.not_false, Int.not_lt, Int.not_le] at hb9)
       exact absurd (by have := hrp2.len; omega) hb9
      ·intro hb9; (try simp only [decide_eq_true_eq, decide_eq_false_iff_not, Bool.not_eq_true', Bool.not_eq_false', Bool.not_eq_eq_eq_not, Bool.not_true, Bool.not_false, Int.not_lt, Int.not_le] at hb9)
       refine GL_rd (v := .pointer (some ⟨_, _, none⟩)) (wn_on rfl rfl rfl rfl) rfl (rd_move rfl rfl) ?_
       refine GL_call (wn_on rfl rfl rfl rfl) rfl rfl (agi_Sound gq _ _ _ hh2 _ (hp.get 2 rfl) (Sl.row (hp.get 1 rfl)) hrp2.heap) rfl ?_
       rintro _ w ⟨rfl, hk⟩
       have hp := hp.comp hk
       refine GL_rd (wn_on rfl rfl rfl rfl) rfl (rd_not rfl rfl) ?_
       refine GL_rd (v := .bool _) (wn_none rfl) rfl (rd_pickF rfl rfl rfl) ?_
       refine GL_rd (v := .bool _) (wn_none rfl) rfl (rd_move rfl rfl) ?_
       refine GL_rd (v := .bool _) (wn_on rfl rfl rfl rfl) rfl (rd_move rfl rfl) ?_
       refine GL_rd (v := .slice _ _ _) (wn_on rfl rfl rfl rfl) rfl (rd_move rfl rfl) ?_
       refine GL_rd (wn_on rfl rfl rfl rfl) rfl (rd_len rfl rfl Try.underlying26) ?_
       refine GL_rd (wn_on rfl rfl rfl rfl) rfl (rd_bin rfl rfl rfl (bo_boolE (q := false) bo_gtr (by simp))) ?_
       refine GL_rd (wn_on rfl rfl rfl rfl) rfl (rd_bin rfl rfl rfl (bo_boolE (bo_bneq Try.underlying4) rfl)) ?_
       refine GL_rd (v := .bool _) (wn_none rfl) rfl (rd_pickF rfl rfl rfl) ?_
       refine GL_rd (v := .bool _) (wn_none rfl) rfl (rd_move rfl rfl) ?_
       refine GL_rd (v := .bool _) (wn_on rfl rfl rfl rfl) rfl (rd_move rfl rfl) ?_
       refine GL_rd (v := .bool _) (wn_on rfl rfl rfl rfl) rfl (rd_move rfl rfl) ?_
       refine GL_pass (nw_off rfl rfl rfl rfl rfl) rfl ?_
       refine GL_pass (nw_off rfl rfl rfl rfl rfl) rfl ?_
       refine GL_pass (nw_off rfl rfl rfl rfl rfl) rfl ?_
       refine GL_pass (nw_off rfl rfl rfl rfl rfl) rfl ?_
       refine GL_pass (nw_off rfl rfl rfl rfl rfl) rfl ?_
       refine GL_pass (nw_off rfl rfl rfl rfl rfl) rfl ?_
       refine GL_pass (nw_off rfl rfl rfl rfl rfl) rfl ?_
       refine GL_pass (nw_undef rfl rfl rfl rfl) rfl ?_
       refine GL_pass (nw_undef rfl rfl rfl rfl) rfl ?_
       refine GL_pass (nw_undef rfl rfl rfl rfl) rfl ?_
       refine GL_pass (nw_undef rfl rfl rfl rfl) rfl ?_
       refine GL_pass (nw_undef rfl rfl rfl rfl) rfl ?_
       refine GL_pass (nw_undef rfl rfl rfl rfl) rfl ?_
       refine GL_pass (nw_off rfl rfl rfl rfl rfl) rfl ?_
       refine GL_rd (v := .bool _) (wn_on rfl rfl rfl rfl) rfl (rd_pickF rfl rfl rfl) ?_
       refine GL_rd (v := .bool _) (wn_none rfl) rfl (rd_pickF rfl rfl rfl) ?_
       refine GL_nil ?_
       refine GW_false rfl ?_
       refine GW_skip ?_
       refine GW_region ?_
       refine GL_rd (v := .int _ _) (wn_none rfl) rfl (rd_move rfl rfl) ?_
       refine GL_rd (wn_none rfl) rfl (rd_bin rfl rfl rfl (bo_add64 (by omega))) ?_
       refine GL_rd (v := .int _ _) (wn_none rfl) rfl (rd_assign rfl rfl) ?_
       refine GL_nil ?_
       have hp := ((((hp.front 2 rfl).front 2 rfl).front 2 rfl).take 3)
       exact ihL0 (i + 1, [], hh2, n2, sv2b, _, r2) _ _ (by simp only []; omega) ⟨_, slots4 rfl rfl rfl rfl, hp, by omega, hrp2, hni2, hMn2, hmv2⟩
     | cons x0 M3 =>
      have hl2 : hh2.length = M3.length + 1 := hrp2.len
      have hhd : itAt hh2 0 = x0 := hrp2.head
      obtain ⟨gM, bM, rfl⟩ := (hmv2 _ (hp.get 0 rfl)).addr (by rw [flat_length prC_len, List.length_map, List.length_cons]; omega)
      refine GW_region ?_
      refine GL_rd (v := .pointer (some ⟨_, _, none⟩)) (wn_none rfl) rfl (rd_move rfl rfl) ?_
      refine GL_call (wn_none rfl) rfl rfl (agi_Next gq _ _ _ hh2 _ (hp.get 2 rfl) (Sl.row (hp.get 1 rfl))) rfl ?_
      rintro _ w ⟨rfl, hk⟩
      have hp := hp.comp hk
      rw [if_neg (show ¬ hh2.length = 0 by omega), if_neg (show ¬ hh2.length = 0 by omega), decide_eq_true (show 0 < hh2.length by omega), hhd]
      refine GL_rd (v := .tuple _) (wn_none rfl) rfl (rd_move rfl rfl) ?_
      refine GL_rd (v := .int _ _) (wn_none rfl) rfl (rd_extract rfl rfl rfl) ?_
      refine GL_rd (v := _) (wn_none rfl) rfl (rd_extract rfl rfl rfl) ?_
      refine GL_rd (v := .bool _) (wn_none rfl) rfl (rd_extract rfl rfl rfl) ?_
      refine GL_rd (v := .int _ _) (wn_none rfl) rfl (rd_assign rfl rfl) ?_
      refine GL_rd (v := _) (wn_none rfl) rfl (rd_assign rfl rfl) ?_
      refine GL_rd (v := .bool _) (wn_none rfl) rfl (rd_assign rfl rfl) ?_
      refine GL_nil ?_
      refine GW_seq ?_
      refine GW_region ?_
      refine GL_rd (v := .pointer (some ⟨_, _, none⟩)) (wn_none rfl) rfl (rd_move rfl rfl) ?_
      refine GL_call (wn_none rfl) rfl rfl (agi_Len gq _ _ _ hh2 _ (hp.get 2 rfl) (Sl.row (hp.get 1 rfl))) rfl ?_
      rintro _ w ⟨rfl, hk⟩
      have hp := hp.comp hk
      refine GL_rd (v := .slice _ _ _) (wn_none rfl) rfl (rd_move rfl rfl) ?_
      refine GL_rd (wn_none rfl) rfl (rd_len rfl rfl Try.underlying26) ?_
      refine GL_rd (wn_none rfl) rfl (rd_bin rfl rfl rfl bo_neq) ?_
      refine GL_rd (v := .bool _) (wn_none rfl) rfl (rd_move rfl rfl) ?_
      refine GL_split (t := 113) (b := _) rfl ?_ ?_
      ·intro hb10; (try simp only [decide_eq_true_eq, decide_eq_false_iff_not, Bool.not_eq_true', Bool.not_eq_false', Bool.not_eq_eq_eq_not, Bool.not_true, Bool.not_false, Int.not_lt, Int.not_le] at hb10)
       exact absurd (by have := hrp2.len; omega) hb10
      ·intro hb10; (try simp only [decide_eq_true_eq, decide_eq_false_iff_not, Bool.not_eq_true', Bool.not_eq_false', Bool.not_eq_eq_eq_not, Bool.not_true, Bool.not_false, Int.not_lt, Int.not_le] at hb10)
       refine GL_rd (v := .pointer (some ⟨_, _, none⟩)) (wn_on rfl rfl rfl rfl) rfl (rd_move rfl rfl) ?_
       refine GL_call (wn_on rfl rfl rfl rfl) rfl rfl (agi_Sound gq _ _ _ hh2 _ (hp.get 2 rfl) (Sl.row (hp.get 1 rfl)) hrp2.heap) rfl ?_
       rintro _ w ⟨rfl, hk⟩
       have hp := hp.comp hk
       refine GL_rd (wn_on rfl rfl rfl rfl) rfl (rd_not rfl rfl) ?_
       refine GL_rd (v := .bool _) (wn_none rfl) rfl (rd_pickF rfl rfl rfl) ?_
       refine GL_rd (v := .bool _) (wn_none rfl) rfl (rd_move rfl rfl) ?_
       refine GL_rd (v := .bool _) (wn_on rfl rfl rfl rfl) rfl (rd_move rfl rfl) ?_
       refine GL_rd (v := .slice _ _ _) (wn_on rfl rfl rfl rfl) rfl (rd_move rfl rfl) ?_
       refine GL_rd (wn_on rfl rfl rfl rfl) rfl (rd_len rfl rfl Try.underlying26) ?_
       refine GL_rd (wn_on rfl rfl rfl rfl) rfl (rd_bin rfl rfl rfl (bo_boolE bo_gtr (decide_eq_true (by simp only [List.length_cons]; omega)))) ?_
       refine GL_rd (wn_on rfl rfl rfl rfl) rfl (rd_bin rfl rfl rfl (bo_boolE (bo_bneq Try.underlying4) rfl)) ?_
       refine GL_rd (v := .bool _) (wn_none rfl) rfl (rd_pickF rfl rfl rfl) ?_
       refine GL_rd (v := .bool _) (wn_none rfl) rfl (rd_move rfl rfl) ?_
       refine GL_rd (v := .bool _) (wn_on rfl rfl rfl rfl) rfl (rd_move rfl rfl) ?_
       refine GL_rd (v := .bool _) (wn_on rfl rfl rfl rfl) rfl (rd_move rfl rfl) ?_
       refine GL_rd (v := .int _ _) (wn_on rfl rfl rfl rfl) rfl (rd_move rfl rfl) ?_
       refine GL_rd (v := .slice _ _ _) (wn_on rfl rfl rfl rfl) rfl (rd_move rfl rfl) ?_
       refine GL_rd (wn_on rfl rfl rfl rfl) rfl (rd_indexS (j := 0) rfl rfl rfl Try.underlying26 ts32 rfl (by simp) _ rfl) ?_
       refine GL_rd (wn_on rfl rfl rfl rfl) rfl (rd_field rfl rfl fa32_0 _ rfl) ?_
       refine GL_rd (wn_on rfl rfl rfl rfl) rfl (rd_load rfl rfl Try.underlying3 rfl (pr_head (M := x0 :: M3) prI (hmv2 _ (hp.get 0 rfl)) (by simp) 0 _ rfl)) ?_
       refine GL_rd (wn_on rfl rfl rfl rfl) rfl (rd_bin rfl rfl rfl (bo_neqS rfl)) ?_
       refine GL_rd (v := .bool _) (wn_on rfl rfl rfl rfl) rfl (rd_move rfl rfl) ?_
       refine GL_rd (v := _) (wn_on rfl rfl rfl rfl) rfl (rd_move rfl rfl) ?_
       refine GL_rd (v := .slice _ _ _) (wn_on rfl rfl rfl rfl) rfl (rd_move rfl rfl) ?_
       refine GL_rd (wn_on rfl rfl rfl rfl) rfl (rd_indexS (j := 0) rfl rfl rfl Try.underlying26 ts32 rfl (by simp) _ rfl) ?_
       refine GL_rd (wn_on rfl rfl rfl rfl) rfl (rd_field rfl rfl fa32_1 _ rfl) ?_
       refine GL_rd (wn_on rfl rfl rfl rfl) rfl (rd_load rfl rfl Try.underlying3 rfl (pr_head (M := x0 :: M3) prI (hmv2 _ (hp.get 0 rfl)) (by simp) 1 _ rfl)) ?_
       refine GL_rd (wn_on rfl rfl rfl rfl) rfl (rd_bin rfl rfl rfl (bo_neqS rfl)) ?_
       refine GL_rd (v := .bool _) (wn_on rfl rfl rfl rfl) rfl (rd_pickF rfl rfl rfl) ?_
       refine GL_rd (v := .bool _) (wn_on rfl rfl rfl rfl) rfl (rd_pickT rfl rfl rfl) ?_
       refine GL_rd (v := .bool _) (wn_none rfl) rfl (rd_pickF rfl rfl rfl) ?_
       refine GL_nil ?_
       refine GW_false rfl ?_
       refine GW_skip ?_
       refine GW_region ?_
       refine GL_rd (v := .int _ _) (wn_none rfl) rfl (rd_move rfl rfl) ?_
       refine GL_rd (wn_none rfl) rfl (rd_bin rfl rfl rfl (bo_add64 (by omega))) ?_
       refine GL_rd (v := .int _ _) (wn_none rfl) rfl (rd_assign rfl rfl) ?_
       refine GL_nil ?_
       have hp := ((((hp.front 2 rfl).front 2 rfl).front 2 rfl).take 3)
       exact ihL0 (i + 1, x0 :: M3, hh2, n2, sv2b, _, r2) _ _ (by simp only []; omega) ⟨_, slots4 rfl rfl rfl rfl, hp, by omega, hrp2, hni2, hMn2, hmv2⟩
   ·(try simp only [decide_eq_true_eq, decide_eq_false_iff_not, Bool.not_eq_true', Bool.not_eq_false', Bool.not_eq_eq_eq_not, Bool.not_true, Bool.not_false, Int.not_lt, Int.not_le] at hb2)
    refine GW_exit ?_
    refine GW_seq ?_
    refine GW_region ?_
    refine GL_call (wn_none rfl) rfl rfl (ag_works _) rfl ?_
    rintro _ w ⟨rfl, hk⟩
    have hp := hp.comp hk
    refine GL_rd (v := .bool _) (wn_none rfl) rfl (rd_assign rfl rfl) ?_
    refine GL_nil ?_
    refine GW_ret ?_
    exact ⟨_, res1 Try.results3 (rv_tmp (v := .bool _) rfl rfl), rfl, hp.mods⟩
  ·have hp := hp.nilRow 32 2
   refine ⟨_, slots4 rfl rfl rfl rfl, hp, Nat.zero_le _, Rep.nil, Nat.le_refl _, Nat.le_refl _, fun w h => Sl.nil w 2⟩

theorem law_AgendaDue (sv : Value) (k : Nat) (l : List (Int × Int)) (now : Int) (w0 : World) (hs : Sl w0 sv 2 k (l.flatMap prC)) : Does Try.prog 4 #[sv, .int .i64 now] w0 fun v w' => v = .bool true ∧ Hp w0 [] w' [] := by
 obtain ⟨A, c, rfl⟩ := sl_shape hs
 have hlen := flat_len prC_len (by decide) hs.len
 refine does_of (l := [.slice A k c, .int .i64 now]) Try.func4 (by kernel_rfl) rfl Try.ntmps4 rfl rfl ?_
 have hp := Hp.refl w0 []
 refine GW_seq ?_
 refine GW_region ?_
 refine GL_rd (v := .bool _) (wn_none rfl) rfl (rd_assign rfl rfl) ?_
 refine GL_nil ?_
 refine GW_seq ?_
 refine GW_seq ?_
 refine GW_region ?_
 refine GL_rd (v := .slice _ _ _) (wn_none rfl) rfl (rd_move rfl rfl) ?_
 refine GL_rd (wn_none rfl) rfl (rd_len rfl rfl Try.underlying26) ?_
 refine GL_rd (wn_none rfl) rfl (rd_bin rfl rfl rfl bo_gtr) ?_
 refine GL_nil ?_
 refine GW_cond rfl (fun hb => ?_) (fun hb => ?_)
 ·(try simp only [decide_eq_true_eq, decide_eq_false_iff_not, Bool.not_eq_true', Bool.not_eq_false', Bool.not_eq_eq_eq_not, Bool.not_true, Bool.not_false, Int.not_lt, Int.not_le] at hb)
  refine GW_seq ?_
  refine GW_region ?_
  refine GL_call (wn_none rfl) rfl rfl (ag_works _) rfl ?_
  rintro _ w ⟨rfl, hk⟩
  have hp := hp.comp hk
  refine GL_rd (v := .bool _) (wn_none rfl) rfl (rd_assign rfl rfl) ?_
  refine GL_nil ?_
  refine GW_ret ?_
  exact ⟨_, res1 Try.results4 (rv_tmp (v := .bool _) rfl rfl), rfl, hp.mods⟩
 ·(try simp only [decide_eq_true_eq, decide_eq_false_iff_not, Bool.not_eq_true', Bool.not_eq_false', Bool.not_eq_eq_eq_not, Bool.not_true, Bool.not_false, Int.not_lt, Int.not_le] at hb)
  have hk100 : k ≤ 100 := by have := hb; omega
  refine GW_skip ?_
  refine GW_seq ?_
  refine GW_region ?_
  refine GL_call (wn_none rfl) rfl rfl (ags_New _) rfl ?_
  rintro _ w ⟨gq, rfl, hk⟩
  have hp := hp.comp hk
  have hp := hp.nilRow 151 3
  refine GL_rd (v := .pointer (some ⟨_, _, none⟩)) (wn_none rfl) rfl (rd_assign rfl rfl) ?_
  refine GL_nil ?_
  refine GW_seq ?_
  refine GW_seq ?_
  refine GW_region ?_
  refine GL_rd (v := .pointer (some ⟨_, _, none⟩)) (wn_none rfl) rfl (rd_move rfl rfl) ?_
  refine GL_rd (wn_none rfl) rfl (rd_bin rfl rfl rfl (bo_pnil Try.underlying39)) ?_
  refine GL_nil ?_
  refine GW_false rfl ?_
  refine GW_skip ?_
  refine GW_seq ?_
  refine GW_region ?_
  refine GL_rd (v := .slice _ _ _) (wn_none rfl) rfl (rd_assign rfl rfl) ?_
  refine GL_nil ?_
  refine GW_seq ?_
  refine GW_seq ?_
  refine GW_region ?_
  refine GL_rd (v := .int _ _) (wn_none rfl) rfl (rd_assign rfl rfl) ?_
  refine GL_nil ?_
  refine GW_block ?_
  refine GW_loop ?_
  refine Lp_ind (α := Nat × List (It ByteArray) × List (It ByteArray) × Value × Value × Res) (fun a_0 f_0 w' => match a_0 with | (i, M, hh, sv2, mv, r) => ∃ fz, f_0 = (upd (upd (upd (upd (upd fz 0 (.slice A k c)) 1 (.int .i64 now)) 5 (.pointer (some ⟨gq, 0, none⟩))) 6 (mv)) 7 (.int .i64 (i : Int))) ∧ Hp w0 [] w' [r, .row 151 3 sv2 hh.length (hh.flatMap (itC Value.string)), cells gq 149 [sv2, .int .i64 (i : Int)]] ∧ (i ≤ k) ∧ (Rep hh M i) ∧ (M.length = i) ∧ (∀ x ∈ M, x.wt = strOf (prAt l x.rk).2 x.rk) ∧ (∀ w, r.at_ w → Sl w mv 2 M.length ((M.map prR).flatMap prC))) (fun a_0 => match a_0 with | (i, M, hh, sv2, mv, r) => k - i) ?_ (0, [], [], .slice none 0 0, .slice none 0 0, .row 32 2 (.slice none 0 0) 0 []) _ _ ?_
  ·rintro ⟨i, M, hh, sv2, mv, r⟩ f wz ⟨fz, rfl, hp, hik, hrp, hMi, hW, hmv⟩ ihL0
   refine Lp_round ?_
   refine GW_seq ?_
   refine GW_seq ?_
   refine GW_region ?_
   refine GL_rd (v := .int _ _) (wn_none rfl) rfl (rd_move rfl rfl) ?_
   refine GL_rd (v := .slice _ _ _) (wn_none rfl) rfl (rd_move rfl rfl) ?_
   refine GL_rd (wn_none rfl) rfl (rd_len rfl rfl Try.underlying26) ?_
   refine GL_rd (wn_none rfl) rfl (rd_bin rfl rfl rfl bo_lss) ?_
   refine GL_nil ?_
   refine GW_cond rfl (fun hb2 => ?_) (fun hb2 => ?_)
   ·(try simp only [decide_eq_true_eq, decide_eq_false_iff_not, Bool.not_eq_true', Bool.not_eq_false', Bool.not_eq_eq_eq_not, Bool.not_true, Bool.not_false, Int.not_lt, Int.not_le] at hb2)
    obtain ⟨gL, bL, rfl⟩ := hs.addr (by rw [flat_length prC_len]; omega)
    have hhl := hrp.len
    refine GW_skip ?_
    refine GW_seq ?_
    refine GW_block ?_
    refine GW_seq ?_
    refine GW_drawnK 17 (.one 0 true (.one 1 true (.one 2 true (.one 3 true (.one 4 true (.one 5 true (.one 6 true (.one 7 true (.one 8 true (.one 9 true (.one 10 true (.one 11 true (.one 12 true (.one 13 true (.one 14 false (.one 15 true (.one 16 false .nil))))))))))))))))) mixed (by kernel_rfl) hp (fun _ h => h.mods) fun w hp => ?_
    have hpS := hp.mods
    refine GO_rdT (v := .pointer (some ⟨_, _, none⟩)) rfl (wn_none rfl) rfl (fun w => (rd_move rfl rfl)) ?_
    refine GO_rdT (v := .slice _ _ _) rfl (wn_none rfl) rfl (fun w => (rd_move rfl rfl)) ?_
    refine GO_rdT (v := .int _ _) rfl (wn_none rfl) rfl (fun w => (rd_move rfl rfl)) ?_
    refine GO_rdT rfl (wn_none rfl) rfl (fun w => (rd_indexS (j := i) rfl rfl rfl Try.underlying26 ts32 rfl (by omega) _ rfl)) ?_
    refine GO_rdT rfl (wn_none rfl) rfl (fun w => (rd_field rfl rfl fa32_0 _ rfl)) ?_
    refine GO_rd rfl rfl (wn_none rfl) rfl hpS (fun w hp => (rd_load rfl rfl Try.underlying3 rfl ((hs.keep hp.mod).get _ _ (pr_cell (i := i) (j := 0) (by omega) rfl (by decide))))) ?_
    refine GO_rdT (v := .slice _ _ _) rfl (wn_none rfl) rfl (fun w => (rd_move rfl rfl)) ?_
    refine GO_rdT (v := .int _ _) rfl (wn_none rfl) rfl (fun w => (rd_move rfl rfl)) ?_
    refine GO_rdT rfl (wn_none rfl) rfl (fun w => (rd_indexS (j := i) rfl rfl rfl Try.underlying26 ts32 rfl (by omega) _ rfl)) ?_
    refine GO_rdT rfl (wn_none rfl) rfl (fun w => (rd_field rfl rfl fa32_1 _ rfl)) ?_
    refine GO_rd rfl rfl (wn_none rfl) rfl hpS (fun w hp => (rd_load rfl rfl Try.underlying3 rfl ((hs.keep hp.mod).get _ _ (pr_cell (i := i) (j := 1) (by omega) rfl (by decide))))) ?_
    refine GO_rd rfl rfl (wn_none rfl) rfl hpS (fun w hp => (rd_convE (q := ((cv8 ((prAt l i).2)).toNat : Int)) rfl rfl Try.underlying5 Try.underlying3 (by simp) (cv8_wrap _))) ?_
    refine GO_rdT (v := .int _ _) rfl (wn_none rfl) rfl (fun w => (rd_move rfl rfl)) ?_
    refine GO_rd rfl rfl (wn_none rfl) rfl hpS (fun w hp => (rd_convE (q := ((cv8 ((i : Int))).toNat : Int)) rfl rfl Try.underlying5 Try.underlying3 (by simp) (cv8_wrap _))) ?_
    refine GO_of_GL rfl ?_
    refine GL_lit (L := bys [cv8 (prAt l i).2, cv8 (i : Int)]) (wn_none rfl) rfl rfl Try.underlying42 ts5 tz5 rfl (by kernel_rfl) rfl rfl hp ?_
    intro g w hp
    have hpS2 := hp.mods
    refine GL_nil ⟨fun _ => hpS2, ?_⟩
    refine GO_grow hp (fun _ h => (h.sub (.cons_cons _ (.cons _ (.cons _ (.cons _ .slnil)))))) (fun _ h => h.mods) fun hpS3 => ?_
    refine GO_rd rfl rfl (wn_none rfl) rfl hpS3 (fun w hp => (rd_toStr rfl rfl Try.underlying42 Try.underlying9 Try.underlying5 (Sl.row (hp.get 0 rfl)))) ?_
    have hp := ((hp.front 2 rfl).front 3 rfl)
    refine GO_of_GL rfl ?_
    refine GL_call (wn_none rfl) rfl rfl (ags_Add gq _ i hh.length hh _ ((prAt l i).1) (strOf (prAt l i).2 i) _ (by omega) (by omega) hrp.heap (hp.ownsT 2)) rfl ?_
    rintro _ w ⟨svA, hA, rfl, hpmA, hhpA, hk⟩
    have hp := hp.turnsT 2 hk
    have hrA := hrp.add (x := ⟨(prAt l i).1, i, strOf (prAt l i).2 i⟩) rfl hpmA hhpA
    have hlA : hA.length = hh.length + 1 := by rw [hpmA.length_eq, List.length_append]; rfl
    rw [← hlA] at hp
    have hpS4 := (hp.sub (.cons _ (.cons _ (.cons_cons _ (.cons _ .slnil)))))
    refine GL_nil ⟨fun _ => hpS4, ?_⟩
    refine GO_nil ?_
    refine GW_region ?_
    refine GL_rd (v := mv) (wn_none rfl) rfl (rd_move rfl rfl) ?_
    refine GL_rd (v := .slice _ _ _) (wn_none rfl) rfl (rd_move rfl rfl) ?_
    refine GL_rd (v := .int _ _) (wn_none rfl) rfl (rd_move rfl rfl) ?_
    refine GL_rd (wn_none rfl) rfl (rd_indexS (j := i) rfl rfl rfl Try.underlying26 ts32 rfl (by omega) _ rfl) ?_
    refine GL_rd (wn_none rfl) rfl (rd_field rfl rfl fa32_0 _ rfl) ?_
    refine GL_rd (wn_none rfl) rfl (rd_load rfl rfl Try.underlying3 rfl ((hs.keep hp.mod).get _ _ (pr_cell (i := i) (j := 0) (by omega) rfl (by decide)))) ?_
    refine GL_rd (v := .int _ _) (wn_none rfl) rfl (rd_move rfl rfl) ?_
    refine GL_rd (wn_none rfl) rfl (rd_buildS (L := prC ((prAt l i).1, (i : Int))) rfl tz32 pl32 (by kernel_rfl)) ?_
    refine GL_call (wn_none rfl) rfl rfl (ref_agAdd _ M.length (M.map prR) ((prAt l i).1, (i : Int)) _ (hmv _ (hp.get 3 rfl)) (by omega)) rfl ?_
    intro nv w hk
    have hp := hp.comp hk
    refine GL_rd (v := nv) (wn_none rfl) rfl (rd_assign rfl rfl) ?_
    refine GL_nil ?_
    refine GW_region ?_
    refine GL_rd (v := .int _ _) (wn_none rfl) rfl (rd_move rfl rfl) ?_
    refine GL_rd (wn_none rfl) rfl (rd_bin rfl rfl rfl (bo_add64 (by omega))) ?_
    refine GL_rd (v := .int _ _) (wn_none rfl) rfl (rd_assign rfl rfl) ?_
    refine GL_nil ?_
    have hp := ((((hp.front 1 rfl).front 2 rfl).front 2 rfl).take 3)
    have e1 := ins_map prR (fun _ => rfl) ⟨(prAt l i).1, i, strOf (prAt l i).2 i⟩ M
    have hp : Hp w0 [] w [.row 32 2 nv (insI ⟨(prAt l i).1, i, strOf (prAt l i).2 i⟩ M).length (((insI ⟨(prAt l i).1, i, strOf (prAt l i).2 i⟩ M).map prR).flatMap prC), .row 151 3 svA hA.length (hA.flatMap (itC Value.string)), cells gq 149 [svA, .int .i64 ((i + 1 : Nat) : Int)]] := by rw [insI_length, ← e1]; exact hp
    exact ihL0 (i + 1, (insI ⟨(prAt l i).1, i, strOf (prAt l i).2 i⟩ M), hA, svA, nv, .row 32 2 nv (insI ⟨(prAt l i).1, i, strOf (prAt l i).2 i⟩ M).length (((insI ⟨(prAt l i).1, i, strOf (prAt l i).2 i⟩ M).map prR).flatMap prC)) _ _ (by simp only []; omega) ⟨_, slots5 rfl rfl rfl rfl rfl, hp, by omega, hrA, by rw [insI_length, hMi], insI_all hW rfl, fun w h => Sl.row h⟩
   ·(try simp only [decide_eq_true_eq, decide_eq_false_iff_not, Bool.not_eq_true', Bool.not_eq_false', Bool.not_eq_eq_eq_not, Bool.not_true, Bool.not_false, Int.not_lt, Int.not_le] at hb2)
    obtain rfl : k = i := by omega
    have hhl := hrp.len
    have htl := tw_len M (fun y => decide (y.at_ ≤ now))
    obtain ⟨Am2, cm2, rfl⟩ := sl_shape (hmv _ (hp.get 0 rfl))
    refine GW_exit ?_
    refine GW_seq ?_
    refine GW_region ?_
    refine GL_rd (v := .pointer (some ⟨_, _, none⟩)) (wn_none rfl) rfl (rd_move rfl rfl) ?_
    refine GL_rd (v := .int _ _) (wn_none rfl) rfl (rd_move rfl rfl) ?_
    have hp := ((hp.front 1 rfl).front 2 rfl)
    refine GL_call (wn_none rfl) rfl rfl (ags_Due gq _ k hh.length hh _ M now _ (by omega) hrp (hp.ownsT 2)) rfl ?_
    rintro vd w ⟨sv6, h6, hr6, hk⟩
    have hp := hp.turnsT 2 hk
    obtain ⟨Ad, cd0, rfl⟩ := row_shape (hp.get 0 rfl)
    refine GL_rd (v := .slice _ _ _) (wn_none rfl) rfl (rd_assign rfl rfl) ?_
    refine GL_nil ?_
    refine GW_seq ?_
    refine GW_seq ?_
    refine GW_region ?_
    refine GL_rd (v := .int _ _) (wn_none rfl) rfl (rd_assign rfl rfl) ?_
    refine GL_nil ?_
    refine GW_block ?_
    refine GW_loop ?_
    refine Lp_ind (α := Nat) (fun a_0 f_0 w' => match a_0 with | i => ∃ fz, f_0 = (upd (upd (upd (upd (upd (upd fz 0 (.slice A k c)) 1 (.int .i64 now)) 5 (.pointer (some ⟨gq, 0, none⟩))) 6 (.slice Am2 M.length cm2)) 8 (.slice Ad (M.takeWhile (fun y => decide (y.at_ ≤ now))).length cd0)) 9 (.int .i64 (i : Int))) ∧ Hp w0 [] w' [.row 9 1 (.slice Ad (M.takeWhile (fun y => decide (y.at_ ≤ now))).length cd0) (M.takeWhile (fun y => decide (y.at_ ≤ now))).length ((M.takeWhile (fun y => decide (y.at_ ≤ now))).map fun x => Value.string x.wt), cells gq 149 [sv6, .int .i64 (k : Int)], .row 151 3 sv6 h6.length (h6.flatMap (itC Value.string)), r] ∧ (i ≤ (M.takeWhile (fun y => decide (y.at_ ≤ now))).length)) (fun a_0 => match a_0 with | i => (M.takeWhile (fun y => decide (y.at_ ≤ now))).length - i) ?_ 0 _ _ ?_
    ·rintro i f wz ⟨fz, rfl, hp, hiD0⟩ ihL1
     refine Lp_round ?_
     refine GW_seq ?_
     refine GW_seq ?_
     refine GW_region ?_
     refine GL_rd (v := .int _ _) (wn_none rfl) rfl (rd_move rfl rfl) ?_
     refine GL_rd (v := .slice _ _ _) (wn_none rfl) rfl (rd_move rfl rfl) ?_
     refine GL_rd (wn_none rfl) rfl (rd_len rfl rfl Try.underlying43) ?_
     refine GL_rd (wn_none rfl) rfl (rd_bin rfl rfl rfl bo_lss) ?_
     refine GL_nil ?_
     refine GW_cond rfl (fun hb3 => ?_) (fun hb3 => ?_)
     ·(try simp only [decide_eq_true_eq, decide_eq_false_iff_not, Bool.not_eq_true', Bool.not_eq_false', Bool.not_eq_eq_eq_not, Bool.not_true, Bool.not_false, Int.not_lt, Int.not_le] at hb3)
      obtain ⟨gL, bL, rfl⟩ := hs.addr (by rw [flat_length prC_len]; omega)
      have hiD : i < (M.takeWhile (fun y => decide (y.at_ ≤ now))).length := by have := hb3; omega
      obtain ⟨ht1, ht2, ht3⟩ := tw_at hiD
      have ht2 := of_decide_eq_true ht2
      have hrk : (itAt M i).rk < k := hrp.rk _ (List.mem_of_getElem? (itAt_some ht3))
      have hwt := hW _ (List.mem_of_getElem? (itAt_some ht3))
      obtain ⟨gd, cd, hq, hcap⟩ := row_addr (hp.get 0 rfl) (by omega)
      injection hq with h1 h2 h3
      subst h1 h3
      obtain ⟨gM, bM, rfl⟩ := (hmv _ (hp.get 3 rfl)).addr (by rw [flat_length prC_len, List.length_map]; omega)
      refine GW_skip ?_
      refine GW_seq ?_
      refine GW_block ?_
      refine GW_seq ?_
      refine GW_region ?_
      refine GL_rd (v := .slice _ _ _) (wn_none rfl) rfl (rd_move rfl rfl) ?_
      refine GL_rd (v := .int _ _) (wn_none rfl) rfl (rd_move rfl rfl) ?_
      refine GL_rd (wn_none rfl) rfl (rd_indexS (j := i) rfl rfl rfl Try.underlying26 ts32 rfl (by omega) _ rfl) ?_
      refine GL_rd (wn_none rfl) rfl (rd_field rfl rfl fa32_1 _ rfl) ?_
      refine GL_rd (wn_none rfl) rfl (rd_load rfl rfl Try.underlying3 rfl (pr_at prR (hmv _ (hp.get 3 rfl)) ht3 1 _ rfl)) ?_
      refine GL_rd (v := .int _ _) (wn_none rfl) rfl (rd_assign rfl rfl) ?_
      refine GL_nil ?_
      refine GW_seq ?_
      refine GW_drawnK 24 (.one 0 true (.one 1 true (.one 2 true (.one 3 true (.one 4 true (.one 5 true (.one 6 true (.one 7 true (.one 8 true (.one 9 true (.one 10 true (.one 11 true (.one 12 true (.one 13 true (.one 14 true (.one 15 true (.one 16 true (.one 17 true (.one 18 true (.one 19 true (.one 20 false (.one 21 true (.one 22 true (.one 23 true .nil)))))))))))))))))))))))) mixed (by kernel_rfl) hp (fun _ h => (h.sub (.cons_cons _ (.cons _ (.cons _ (.cons_cons _ .slnil)))))) fun w hp => ?_
      have hpS5 := (hp.sub (.cons_cons _ (.cons _ (.cons _ (.cons_cons _ .slnil)))))
      refine GO_rdT (v := .slice _ _ _) rfl (wn_none rfl) rfl (fun w => (rd_move rfl rfl)) ?_
      refine GO_rdT (v := .int _ _) rfl (wn_none rfl) rfl (fun w => (rd_move rfl rfl)) ?_
      refine GO_rdT rfl (wn_none rfl) rfl (fun w => (rd_indexS (j := i) rfl rfl rfl Try.underlying26 ts32 rfl (by omega) _ rfl)) ?_
      refine GO_rdT rfl (wn_none rfl) rfl (fun w => (rd_field rfl rfl fa32_0 _ rfl)) ?_
      refine GO_rd rfl rfl (wn_none rfl) rfl hpS5 (fun w hp => (rd_load rfl rfl Try.underlying3 rfl (pr_at prR (hmv _ (hp.get 1 rfl)) ht3 0 _ rfl))) ?_
      refine GO_rdT (v := .int _ _) rfl (wn_none rfl) rfl (fun w => (rd_move rfl rfl)) ?_
      refine GO_rd rfl rfl (wn_none rfl) rfl hpS5 (fun w hp => (rd_bin rfl rfl rfl bo_gtr)) ?_
      refine GO_rdT (v := .bool _) rfl (wn_none rfl) rfl (fun w => (rd_move rfl rfl)) ?_
      refine GO_split (t := 74) (b := _) rfl ?_ ?_
      ·intro hb4; (try simp only [decide_eq_true_eq, decide_eq_false_iff_not, Bool.not_eq_true', Bool.not_eq_false', Bool.not_eq_eq_eq_not, Bool.not_true, Bool.not_false, Int.not_lt, Int.not_le] at hb4)
       exact absurd hb4 (by have e : (prR (itAt M i)).1 = (itAt M i).at_ := rfl; omega)
      ·intro hb4; (try simp only [decide_eq_true_eq, decide_eq_false_iff_not, Bool.not_eq_true', Bool.not_eq_false', Bool.not_eq_eq_eq_not, Bool.not_true, Bool.not_false, Int.not_lt, Int.not_le] at hb4)
       refine GO_rdT (v := .slice _ _ _) rfl (wn_on rfl rfl rfl rfl) rfl (fun w => (rd_move rfl rfl)) ?_
       refine GO_rdT (v := .int _ _) rfl (wn_on rfl rfl rfl rfl) rfl (fun w => (rd_move rfl rfl)) ?_
       refine GO_rdT rfl (wn_on rfl rfl rfl rfl) rfl (fun w => (rd_indexS (j := i) rfl rfl rfl Try.underlying43 ts9 rfl (by omega) _ rfl)) ?_
       refine GO_rd rfl rfl (wn_on rfl rfl rfl rfl) rfl hpS5 (fun w hp => (rd_load rfl rfl Try.underlying9 rfl ((Sl.row (hp.get 0 rfl)).get (i * 1) _ (by rw [Nat.mul_one, List.getElem?_map, ht1]; rfl)))) ?_
       refine GO_rdT (v := .slice _ _ _) rfl (wn_on rfl rfl rfl rfl) rfl (fun w => (rd_move rfl rfl)) ?_
       refine GO_rdT (v := .int _ _) rfl (wn_on rfl rfl rfl rfl) rfl (fun w => (rd_move rfl rfl)) ?_
       refine GO_rdT rfl (wn_on rfl rfl rfl rfl) rfl (fun w => (rd_indexS (j := (itAt M i).rk) rfl rfl rfl Try.underlying26 ts32 rfl (by omega) _ rfl)) ?_
       refine GO_rdT rfl (wn_on rfl rfl rfl rfl) rfl (fun w => (rd_field rfl rfl fa32_1 _ rfl)) ?_
       refine GO_rd rfl rfl (wn_on rfl rfl rfl rfl) rfl hpS5 (fun w hp => (rd_load rfl rfl Try.underlying3 rfl ((hs.keep hp.mod).get _ _ (pr_cell (i := (itAt M i).rk) (j := 1) (by omega) rfl (by decide))))) ?_
       refine GO_rd rfl rfl (wn_on rfl rfl rfl rfl) rfl hpS5 (fun w hp => (rd_convE (q := ((cv8 ((prAt l (itAt M i).rk).2)).toNat : Int)) rfl rfl Try.underlying5 Try.underlying3 (by simp) (cv8_wrap _))) ?_
       refine GO_rdT (v := .int _ _) rfl (wn_on rfl rfl rfl rfl) rfl (fun w => (rd_move rfl rfl)) ?_
       refine GO_rd rfl rfl (wn_on rfl rfl rfl rfl) rfl hpS5 (fun w hp => (rd_convE (q := ((cv8 (((itAt M i).rk : Int))).toNat : Int)) rfl rfl Try.underlying5 Try.underlying3 (by simp) (cv8_wrap _))) ?_
       refine GO_of_GL rfl ?_
       refine GL_lit (L := bys [cv8 (prAt l (itAt M i).rk).2, cv8 ((itAt M i).rk : Int)]) (wn_on rfl rfl rfl rfl) rfl rfl Try.underlying42 ts5 tz5 rfl (by kernel_rfl) rfl rfl hp ?_
       intro g2 w hp
       have hpS6 := (hp.sub (.cons _ (.cons_cons _ (.cons _ (.cons _ (.cons_cons _ .slnil))))))
       refine GL_nil ⟨fun _ => hpS6, ?_⟩
       refine GO_grow hp (fun _ h => (h.sub (.cons_cons _ (.cons_cons _ (.cons _ (.cons _ (.cons_cons _ .slnil))))))) (fun _ h => (h.sub (.cons _ (.cons_cons _ (.cons_cons _ .slnil))))) fun hpS7 => ?_
       refine GO_rd rfl rfl (wn_on rfl rfl rfl rfl) rfl hpS7 (fun w hp => (rd_toStr rfl rfl Try.underlying42 Try.underlying9 Try.underlying5 (Sl.row (hp.get 0 rfl)))) ?_
       refine GO_rd rfl rfl (wn_on rfl rfl rfl rfl) rfl hpS7 (fun w hp => (rd_bin rfl rfl rfl (bo_sneqS Try.underlying9 hwt))) ?_
       refine GO_rdT (v := .bool _) rfl (wn_none rfl) rfl (fun w => (rd_pickF rfl rfl rfl)) ?_
       refine GO_nil ?_
       refine GW_false rfl ?_
       refine GW_skip ?_
       refine GW_region ?_
       refine GL_rd (v := .int _ _) (wn_none rfl) rfl (rd_move rfl rfl) ?_
       refine GL_rd (wn_none rfl) rfl (rd_bin rfl rfl rfl (bo_add64 (by omega))) ?_
       refine GL_rd (v := .int _ _) (wn_none rfl) rfl (rd_assign rfl rfl) ?_
       refine GL_nil ?_
       have hp := (((((hp.front 4 rfl).front 4 rfl).front 4 rfl).front 4 rfl).take 4)
       exact ihL1 (i + 1) _ _ (by simp only []; omega) ⟨_, slots6 rfl rfl rfl rfl rfl rfl, hp, by omega⟩
     ·(try simp only [decide_eq_true_eq, decide_eq_false_iff_not, Bool.not_eq_true', Bool.not_eq_false', Bool.not_eq_eq_eq_not, Bool.not_true, Bool.not_false, Int.not_lt, Int.not_le] at hb3)
      have htl := tw_len M (fun y => decide (y.at_ ≤ now))
      refine GW_exit ?_
      refine GW_seq ?_
      have hl60 := hr6.len
      cases hN : M.dropWhile (fun y => decide (y.at_ ≤ now)) with
      | nil =>
       rw [hN] at hr6 hl60 htl
       have hl6 : h6.length = 0 := hl60
       simp only [List.length_nil] at htl
       refine GW_region ?_
       refine GL_rd (v := .pointer (some ⟨_, _, none⟩)) (wn_none rfl) rfl (rd_move rfl rfl) ?_
       refine GL_call (wn_none rfl) rfl rfl (ags_Next gq _ _ _ h6 _ (hp.get 1 rfl) (Sl.row (hp.get 2 rfl))) rfl ?_
       rintro _ w ⟨rfl, hk⟩
       have hp := hp.comp hk
       rw [hl6]
       refine GL_rd (v := .tuple _) (wn_none rfl) rfl (rd_move rfl rfl) ?_
       refine GL_rd (v := .int _ _) (wn_none rfl) rfl (rd_extract rfl rfl rfl) ?_
       refine GL_rd (v := _) (wn_none rfl) rfl (rd_extract rfl rfl rfl) ?_
       refine GL_rd (v := .bool _) (wn_none rfl) rfl (rd_extract rfl rfl rfl) ?_
       refine GL_rd (v := .int _ _) (wn_none rfl) rfl (rd_assign rfl rfl) ?_
       refine GL_rd (v := _) (wn_none rfl) rfl (rd_assign rfl rfl) ?_
       refine GL_rd (v := .bool _) (wn_none rfl) rfl (rd_assign rfl rfl) ?_
       refine GL_nil ?_
       refine GW_seq ?_
       refine GW_region ?_
       refine GL_rd (v := .pointer (some ⟨_, _, none⟩)) (wn_none rfl) rfl (rd_move rfl rfl) ?_
       refine GL_call (wn_none rfl) rfl rfl (ags_Len gq _ _ _ h6 _ (hp.get 1 rfl) (Sl.row (hp.get 2 rfl))) rfl ?_
       rintro _ w ⟨rfl, hk⟩
       have hp := hp.comp hk
       refine GL_rd (v := .slice _ _ _) (wn_none rfl) rfl (rd_move rfl rfl) ?_
       refine GL_rd (wn_none rfl) rfl (rd_len rfl rfl Try.underlying26) ?_
       refine GL_rd (v := .slice _ _ _) (wn_none rfl) rfl (rd_move rfl rfl) ?_
       refine GL_rd (wn_none rfl) rfl (rd_len rfl rfl Try.underlying43) ?_
       refine GL_rd (wn_none rfl) rfl (rd_bin rfl rfl rfl (bo_sub64 (by omega))) ?_
       refine GL_rd (wn_none rfl) rfl (rd_bin rfl rfl rfl bo_eql) ?_
       refine GL_rd (v := .bool _) (wn_none rfl) rfl (rd_move rfl rfl) ?_
       refine GL_split (t := 105) (b := _) rfl ?_ ?_
       ·intro hb5; (try simp only [decide_eq_true_eq, decide_eq_false_iff_not, Bool.not_eq_true', Bool.not_eq_false', Bool.not_eq_eq_eq_not, Bool.not_true, Bool.not_false, Int.not_lt, Int.not_le] at hb5)
        refine GL_rd (v := .bool _) (wn_on rfl rfl rfl rfl) rfl (rd_move rfl rfl) ?_
        refine GL_rd (wn_on rfl rfl rfl rfl) rfl (rd_not rfl rfl) ?_
        refine GL_rd (v := .bool _) (wn_on rfl rfl rfl rfl) rfl (rd_move rfl rfl) ?_
        refine GL_pass (nw_off rfl rfl rfl rfl rfl) rfl ?_
        refine GL_pass (nw_off rfl rfl rfl rfl rfl) rfl ?_
        refine GL_pass (nw_off rfl rfl rfl rfl rfl) rfl ?_
        refine GL_rd (v := .bool _) (wn_on rfl rfl rfl rfl) rfl (rd_pickT rfl rfl rfl) ?_
        refine GL_rd (v := .bool _) (wn_none rfl) rfl (rd_pickT rfl rfl rfl) ?_
        refine GL_rd (v := .bool _) (wn_none rfl) rfl (rd_move rfl rfl) ?_
        refine GL_call (wn_on rfl rfl rfl rfl) rfl rfl (ag_works _) rfl ?_
        rintro _ w ⟨rfl, hk⟩
        have hp := hp.comp hk
        refine GL_rd (v := .bool _) (wn_none rfl) rfl (rd_pickT rfl rfl rfl) ?_
        refine GL_rd (v := .bool _) (wn_none rfl) rfl (rd_assign rfl rfl) ?_
        refine GL_nil ?_
        refine GW_ret ?_
        exact ⟨_, res1 Try.results4 (rv_tmp (v := .bool _) rfl rfl), rfl, hp.mods⟩
       ·intro hb5; (try simp only [decide_eq_true_eq, decide_eq_false_iff_not, Bool.not_eq_true', Bool.not_eq_false', Bool.not_eq_eq_eq_not, Bool.not_true, Bool.not_false, Int.not_lt, Int.not_le] at hb5)
        all_goals first | exact absurd rfl hb5 | exact absurd trivial hb5 | exact absurd hb5 (by decide) | exact absurd (by decide) hb5 | exact absurd (by omega) hb5 | exact absurd hb5 (by omega)
      | cons x0 M3 =>
       have hx0 := srt_drop hrp.srt now x0 (by rw [hN]; simp)
       rw [hN] at hr6 hl60 htl
       have hl6 : h6.length = M3.length + 1 := hl60
       have hhd : itAt h6 0 = x0 := hr6.head
       simp only [List.length_cons] at htl
       refine GW_region ?_
       refine GL_rd (v := .pointer (some ⟨_, _, none⟩)) (wn_none rfl) rfl (rd_move rfl rfl) ?_
       refine GL_call (wn_none rfl) rfl rfl (ags_Next gq _ _ _ h6 _ (hp.get 1 rfl) (Sl.row (hp.get 2 rfl))) rfl ?_
       rintro _ w ⟨rfl, hk⟩
       have hp := hp.comp hk
       rw [if_neg (show ¬ h6.length = 0 by omega), if_neg (show ¬ h6.length = 0 by omega), decide_eq_true (show 0 < h6.length by omega), hhd]
       refine GL_rd (v := .tuple _) (wn_none rfl) rfl (rd_move rfl rfl) ?_
       refine GL_rd (v := .int _ _) (wn_none rfl) rfl (rd_extract rfl rfl rfl) ?_
       refine GL_rd (v := _) (wn_none rfl) rfl (rd_extract rfl rfl rfl) ?_
       refine GL_rd (v := .bool _) (wn_none rfl) rfl (rd_extract rfl rfl rfl) ?_
       refine GL_rd (v := .int _ _) (wn_none rfl) rfl (rd_assign rfl rfl) ?_
       refine GL_rd (v := _) (wn_none rfl) rfl (rd_assign rfl rfl) ?_
       refine GL_rd (v := .bool _) (wn_none rfl) rfl (rd_assign rfl rfl) ?_
       refine GL_nil ?_
       refine GW_seq ?_
       refine GW_region ?_
       refine GL_rd (v := .pointer (some ⟨_, _, none⟩)) (wn_none rfl) rfl (rd_move rfl rfl) ?_
       refine GL_call (wn_none rfl) rfl rfl (ags_Len gq _ _ _ h6 _ (hp.get 1 rfl) (Sl.row (hp.get 2 rfl))) rfl ?_
       rintro _ w ⟨rfl, hk⟩
       have hp := hp.comp hk
       refine GL_rd (v := .slice _ _ _) (wn_none rfl) rfl (rd_move rfl rfl) ?_
       refine GL_rd (wn_none rfl) rfl (rd_len rfl rfl Try.underlying26) ?_
       refine GL_rd (v := .slice _ _ _) (wn_none rfl) rfl (rd_move rfl rfl) ?_
       refine GL_rd (wn_none rfl) rfl (rd_len rfl rfl Try.underlying43) ?_
       refine GL_rd (wn_none rfl) rfl (rd_bin rfl rfl rfl (bo_sub64 (by omega))) ?_
       refine GL_rd (wn_none rfl) rfl (rd_bin rfl rfl rfl bo_eql) ?_
       refine GL_rd (v := .bool _) (wn_none rfl) rfl (rd_move rfl rfl) ?_
       refine GL_split (t := 105) (b := _) rfl ?_ ?_
       ·intro hb6; (try simp only [decide_eq_true_eq, decide_eq_false_iff_not, Bool.not_eq_true', Bool.not_eq_false', Bool.not_eq_eq_eq_not, Bool.not_true, Bool.not_false, Int.not_lt, Int.not_le] at hb6)
        refine GL_rd (v := .bool _) (wn_on rfl rfl rfl rfl) rfl (rd_move rfl rfl) ?_
        refine GL_rd (wn_on rfl rfl rfl rfl) rfl (rd_not rfl rfl) ?_
        refine GL_rd (v := .bool _) (wn_on rfl rfl rfl rfl) rfl (rd_move rfl rfl) ?_
        refine GL_rd (v := .int _ _) (wn_on rfl rfl rfl rfl) rfl (rd_move rfl rfl) ?_
        refine GL_rd (v := .int _ _) (wn_on rfl rfl rfl rfl) rfl (rd_move rfl rfl) ?_
        refine GL_rd (wn_on rfl rfl rfl rfl) rfl (rd_bin rfl rfl rfl bo_gtr) ?_
        refine GL_rd (v := .bool _) (wn_on rfl rfl rfl rfl) rfl (rd_pickF rfl rfl rfl) ?_
        refine GL_rd (v := .bool _) (wn_none rfl) rfl (rd_pickT rfl rfl rfl) ?_
        refine GL_rd (v := .bool _) (wn_none rfl) rfl (rd_move rfl rfl) ?_
        refine GL_split (t := 114) (b := _) rfl ?_ ?_
        ·intro hb7; (try simp only [decide_eq_true_eq, decide_eq_false_iff_not, Bool.not_eq_true', Bool.not_eq_false', Bool.not_eq_eq_eq_not, Bool.not_true, Bool.not_false, Int.not_lt, Int.not_le] at hb7)
         refine GL_call (wn_on rfl rfl rfl rfl) rfl rfl (ag_works _) rfl ?_
         rintro _ w ⟨rfl, hk⟩
         have hp := hp.comp hk
         refine GL_rd (v := .bool _) (wn_none rfl) rfl (rd_pickT rfl rfl rfl) ?_
         refine GL_rd (v := .bool _) (wn_none rfl) rfl (rd_assign rfl rfl) ?_
         refine GL_nil ?_
         refine GW_ret ?_
         exact ⟨_, res1 Try.results4 (rv_tmp (v := .bool _) rfl rfl), rfl, hp.mods⟩
        ·intro hb7; (try simp only [decide_eq_true_eq, decide_eq_false_iff_not, Bool.not_eq_true', Bool.not_eq_false', Bool.not_eq_eq_eq_not, Bool.not_true, Bool.not_false, Int.not_lt, Int.not_le] at hb7)
         all_goals first | exact absurd rfl hb7 | exact absurd trivial hb7 | exact absurd hb7 (by decide) | exact absurd (by decide) hb7 | exact absurd (by omega) hb7 | exact absurd hb7 (by omega)
       ·intro hb6; (try simp only [decide_eq_true_eq, decide_eq_false_iff_not, Bool.not_eq_true', Bool.not_eq_false', Bool.not_eq_eq_eq_not, Bool.not_true, Bool.not_false, Int.not_lt, Int.not_le] at hb6)
        all_goals first | exact absurd rfl hb6 | exact absurd trivial hb6 | exact absurd hb6 (by decide) | exact absurd (by decide) hb6 | exact absurd (by omega) hb6 | exact absurd hb6 (by omega)
    ·refine ⟨_, slots6 rfl rfl rfl rfl rfl rfl, hp, Nat.zero_le _⟩
  ·have hp := hp.nilRow 32 2
   refine ⟨_, slots5 rfl rfl rfl rfl rfl, hp, Nat.zero_le _, Rep.nil, rfl, (fun x hx => by cases hx), fun w h => Sl.nil w 2⟩

end Go.Proofs.Ytjbbknjhgdmdkaa
