/- Walks of functions of the program. -/
import Derived.Test.YtjbbknjhgdmdkaaActs
import Derived.Test.YtjbbknjhgdmdkaaTypes
import Derived.Test.YtjbbknjhgdmdkaaHeapS
set_option linter.unusedVariables false
set_option linter.unusedSimpArgs false
namespace Go.Proofs.Ytjbbknjhgdmdkaa
open Go.Mo Go.RowKit
theorem aga_New (w0 : World) : Does Try.prog 151 #[] w0 fun v w' => ∃ g, v = .pointer (some ⟨g, 0, none⟩) ∧ Hp w0 [] w' [cells g 221 [.slice none 0 0, .int .i64 0]] := by
 refine does_of (l := []) Try.func151 (by kernel_rfl) rfl Try.ntmps151 rfl rfl ?_
 have hp := Hp.refl w0 []
 refine GW_seq ?_
 refine GW_region ?_
 refine GL_rd (v := _) (wn_none rfl) rfl (rd_assign rfl rfl) ?_
 refine GL_nil ?_
 refine GW_seq ?_
 refine GW_region ?_
 refine GL_rd (wn_none rfl) rfl (rd_buildS (L := [.slice none 0 0, .int .i64 0]) rfl tz221 pl221 (by kernel_rfl)) ?_
 refine GL_box (wn_none rfl) rfl rfl rfl rfl hp ?_
 intro g w hp
 refine GL_rd (v := .pointer (some ⟨_, _, none⟩)) (wn_none rfl) rfl (rd_assign rfl rfl) ?_
 refine GL_nil ?_
 refine GW_ret ?_
 exact ⟨_, res1 Try.results151 (rv_tmp (v := .pointer (some ⟨_, _, none⟩)) rfl rfl), g, rfl, hp⟩

theorem aga_OfNil (w0 : World) : Does Try.prog 93 #[.pointer none] w0 fun v w' => ∃ g, v = .pointer (some ⟨g, 0, none⟩) ∧ Hp w0 [] w' [cells g 221 [.slice none 0 0, .int .i64 0]] := by
 refine does_of (l := [.pointer none]) Try.func93 (by kernel_rfl) rfl Try.ntmps93 rfl rfl ?_
 have hp := Hp.refl w0 []
 refine GW_seq ?_
 refine GW_region ?_
 refine GL_rd (v := _) (wn_none rfl) rfl (rd_assign rfl rfl) ?_
 refine GL_nil ?_
 refine GW_seq ?_
 refine GW_region ?_
 refine GL_call (wn_none rfl) rfl rfl (aga_New _) rfl ?_
 rintro _ w ⟨g, rfl, hk⟩
 have hp := hp.comp hk
 refine GL_rd (v := .pointer (some ⟨_, _, none⟩)) (wn_none rfl) rfl (rd_assign rfl rfl) ?_
 refine GL_nil ?_
 refine GW_seq ?_
 refine GW_seq ?_
 refine GW_region ?_
 refine GL_rd (v := .pointer _) (wn_none rfl) rfl (rd_move rfl rfl) ?_
 refine GL_rd (wn_none rfl) rfl (rd_bin rfl rfl rfl (bo_pnn Try.underlying117)) ?_
 refine GL_nil ?_
 refine GW_true rfl ?_
 refine GW_seq ?_
 refine GW_region ?_
 refine GL_rd (v := .pointer (some ⟨_, _, none⟩)) (wn_none rfl) rfl (rd_move rfl rfl) ?_
 refine GL_rd (v := .pointer (some ⟨_, _, none⟩)) (wn_none rfl) rfl (rd_assign rfl rfl) ?_
 refine GL_nil ?_
 refine GW_ret ?_
 exact ⟨_, res1 Try.results93 (rv_tmp (v := .pointer (some ⟨_, _, none⟩)) rfl rfl), g, rfl, hp⟩

theorem aga_Len (g : Nat) (w0 : World) (hA : (cells g 221 [.slice none 0 0, .int .i64 0]).at_ w0) : Does Try.prog 95 #[.pointer (some ⟨g, 0, none⟩)] w0 fun v w' => v = .int .i64 0 ∧ Hp w0 [] w' [] := by
 refine does_of (l := [.pointer (some ⟨g, 0, none⟩)]) Try.func95 (by kernel_rfl) rfl Try.ntmps95 rfl rfl ?_
 have hp := Hp.refl w0 []
 refine GW_seq ?_
 refine GW_region ?_
 refine GL_rd (v := .int _ _) (wn_none rfl) rfl (rd_assign rfl rfl) ?_
 refine GL_nil ?_
 refine GW_seq ?_
 refine GW_region ?_
 refine GL_rd (v := .pointer (some ⟨_, _, none⟩)) (wn_none rfl) rfl (rd_move rfl rfl) ?_
 refine GL_rd (wn_none rfl) rfl (rd_nilCheck rfl rfl) ?_
 refine GL_rd (wn_none rfl) rfl (rd_field rfl rfl fa221_0 _ rfl) ?_
 refine GL_rd (v := .slice _ _ _) (wn_none rfl) rfl (rd_load rfl rfl Try.underlying219 rfl ((cell_of_cells (cells.keep hA hp.mod) _).trans rfl)) ?_
 refine GL_rd (wn_none rfl) rfl (rd_len rfl rfl Try.underlying219) ?_
 refine GL_rd (v := .int _ _) (wn_none rfl) rfl (rd_assign rfl rfl) ?_
 refine GL_nil ?_
 refine GW_ret ?_
 exact ⟨_, res1 Try.results95 (rv_tmp (v := .int _ _) rfl rfl), rfl, hp.mods⟩

theorem ref_agAdd (sv : Value) (m : Nat) (l : List (Int × Int)) (x : Int × Int) (w0 : World) (hs : Sl w0 sv 2 m (l.flatMap prC)) (hm : m ≤ 1000000) : Does Try.prog 18 #[sv, .agg ⟨prC x⟩] w0 fun v w' => Hp w0 [] w' [.row 32 2 v (m + 1) ((insP x l).flatMap prC)] := by
 obtain ⟨A, c, rfl⟩ := sl_shape hs
 have hlen := flat_len prC_len (by decide) hs.len
 refine does_of (l := [.slice A m c, .agg ⟨prC x⟩]) Try.func18 (by kernel_rfl) rfl Try.ntmps18 rfl rfl ?_
 have hp := Hp.refl w0 []
 refine GW_seq ?_
 refine GW_region ?_
 refine GL_box (wn_none rfl) rfl rfl rfl rfl hp ?_
 intro g w hp
 refine GL_rd (v := .slice _ _ _) (wn_none rfl) rfl (rd_assign rfl rfl) ?_
 refine GL_nil ?_
 refine GW_seq ?_
 refine GW_region ?_
 refine GL_rd (v := .slice _ _ _) (wn_none rfl) rfl (rd_assign rfl rfl) ?_
 refine GL_nil ?_
 refine GW_seq ?_
 refine GW_region ?_
 refine GL_rd (v := .int _ _) (wn_none rfl) rfl (rd_assign rfl rfl) ?_
 refine GL_nil ?_
 refine GW_seq ?_
 refine GW_block ?_
 refine GW_loop ?_
 refine Lp_ind (α := Nat × Value) (fun a_0 f_0 w' => match a_0 with | (i, v) => ∃ fz, f_0 = (upd (upd (upd (upd fz 0 (.slice A m c)) 3 (.pointer (some ⟨g, 0, none⟩))) 5 (v)) 6 (.int .i64 (i : Int))) ∧ Hp w0 [] w' [.row 32 2 v i ((l.take i).flatMap prC), cells g 32 (prC x)] ∧ (i ≤ m) ∧ (∀ j, j < i → (prAt l j).1 ≤ x.1)) (fun a_0 => match a_0 with | (i, v) => m - i) ?_ (0, .slice none 0 0) _ _ ?_
 ·rintro ⟨i, v⟩ f wz ⟨fz, rfl, hp, hi0, hall⟩ ihL0
  refine Lp_round ?_
  refine GW_seq ?_
  refine GW_seq ?_
  refine GW_drawnK 14 (.one 0 true (.one 1 true (.one 2 true (.one 3 true (.one 4 true (.one 5 true (.one 6 true (.one 7 true (.one 8 true (.one 9 true (.one 10 true (.one 11 true (.one 12 true (.one 13 true .nil)))))))))))))) mixed (by kernel_rfl) hp (fun _ h => (h.sub (.cons _ (.cons_cons _ .slnil)))) fun w hp => ?_
  have hpS := (hp.sub (.cons _ (.cons_cons _ .slnil)))
  refine GO_rdT (v := .int _ _) rfl (wn_none rfl) rfl (fun w => (rd_move rfl rfl)) ?_
  refine GO_rdT (v := .slice _ _ _) rfl (wn_none rfl) rfl (fun w => (rd_move rfl rfl)) ?_
  refine GO_rd rfl rfl (wn_none rfl) rfl hpS (fun w hp => (rd_len rfl rfl Try.underlying26)) ?_
  refine GO_rd rfl rfl (wn_none rfl) rfl hpS (fun w hp => (rd_bin rfl rfl rfl bo_lss)) ?_
  refine GO_rdT (v := .bool _) rfl (wn_none rfl) rfl (fun w => (rd_move rfl rfl)) ?_
  refine GO_split (t := 11) (b := _) rfl ?_ ?_
  ·intro hb; (try simp only [decide_eq_true_eq, decide_eq_false_iff_not, Bool.not_eq_true', Bool.not_eq_false', Bool.not_eq_eq_eq_not, Bool.not_true, Bool.not_false, Int.not_lt, Int.not_le] at hb)
   have him : i < m := by have := hb; omega
   obtain ⟨gA, bA, rfl⟩ := hs.addr (by rw [flat_length prC_len]; omega)
   refine GO_rdT (v := .slice _ _ _) rfl (wn_on rfl rfl rfl rfl) rfl (fun w => (rd_move rfl rfl)) ?_
   refine GO_rdT (v := .int _ _) rfl (wn_on rfl rfl rfl rfl) rfl (fun w => (rd_move rfl rfl)) ?_
   refine GO_rdT rfl (wn_on rfl rfl rfl rfl) rfl (fun w => (rd_indexS (j := i) rfl rfl rfl Try.underlying26 ts32 rfl him _ rfl)) ?_
   refine GO_rdT rfl (wn_on rfl rfl rfl rfl) rfl (fun w => (rd_field rfl rfl fa32_0 _ rfl)) ?_
   refine GO_rd rfl rfl (wn_on rfl rfl rfl rfl) rfl hpS (fun w hp => (rd_load rfl rfl Try.underlying3 rfl ((hs.keep hp.mod).get _ _ (pr_cell (i := i) (j := 0) (by omega) rfl (by decide))))) ?_
   refine GO_rdT rfl (wn_on rfl rfl rfl rfl) rfl (fun w => (rd_field rfl rfl fa32_0 _ rfl)) ?_
   refine GO_rd rfl rfl (wn_on rfl rfl rfl rfl) rfl hpS (fun w hp => (rd_load rfl rfl Try.underlying3 rfl ((cell_of_cells (hp.get 0 rfl) _).trans rfl))) ?_
   refine GO_rd rfl rfl (wn_on rfl rfl rfl rfl) rfl hpS (fun w hp => (rd_bin rfl rfl rfl bo_leq)) ?_
   refine GO_rdT (v := .bool _) rfl (wn_none rfl) rfl (fun w => (rd_pickT rfl rfl rfl)) ?_
   refine GO_nil ?_
   refine GW_cond rfl (fun hb2 => ?_) (fun hb2 => ?_)
   ·(try simp only [decide_eq_true_eq, decide_eq_false_iff_not, Bool.not_eq_true', Bool.not_eq_false', Bool.not_eq_eq_eq_not, Bool.not_true, Bool.not_false, Int.not_lt, Int.not_le] at hb2)
    have hle := hb2
    refine GW_skip ?_
    refine GW_block ?_
    refine GW_seq ?_
    refine GW_region ?_
    refine GL_rd (v := v) (wn_none rfl) rfl (rd_move rfl rfl) ?_
    refine GL_rd (v := .slice _ _ _) (wn_none rfl) rfl (rd_move rfl rfl) ?_
    refine GL_rd (v := .int _ _) (wn_none rfl) rfl (rd_move rfl rfl) ?_
    refine GL_rd (wn_none rfl) rfl (rd_indexS (j := i) rfl rfl rfl Try.underlying26 ts32 rfl him _ rfl) ?_
    refine GL_rd (wn_none rfl) rfl (rd_loadN (L := prC (prAt l i)) rfl rfl Try.underlying32 rfl ts32 rfl (fun j u hj => (hs.keep hp.mod).elem prC_len i j (prC_lt hj) (prAt_some (by omega)) hj)) ?_
    refine GL_lit (L := prC (prAt l i)) (wn_none rfl) rfl rfl Try.underlying26 ts32 tz32 rfl (by kernel_rfl) rfl rfl hp ?_
    intro g2 w hp
    refine GL_append (i := 1) (wn_none rfl) rfl rfl rfl rfl Try.underlying26 ti32 rfl (by decide) hp rfl (Sl.row (hp.get 0 rfl)) (prC_one _) (by omega) (by omega) ?_
    intro v w hp
    refine GL_rd (v := v) (wn_none rfl) rfl (rd_assign rfl rfl) ?_
    refine GL_nil ?_
    refine GW_region ?_
    refine GL_rd (v := .int _ _) (wn_none rfl) rfl (rd_move rfl rfl) ?_
    refine GL_rd (wn_none rfl) rfl (rd_bin rfl rfl rfl (bo_add64 (by omega))) ?_
    refine GL_rd (v := .int _ _) (wn_none rfl) rfl (rd_assign rfl rfl) ?_
    refine GL_nil ?_
    have hp := (((hp.front 2 rfl).front 2 rfl).take 2)
    have hp : Hp w0 [] w [.row 32 2 v (i + 1) ((l.take (i + 1)).flatMap prC), cells g 32 (prC x)] := by rw [take_one (prAt_some (by omega)), flat_snoc]; exact hp
    exact ihL0 (i + 1, v) _ _ (by simp only []; omega) ⟨_, slots4 rfl rfl rfl rfl, hp, by omega, fun j hj => by by_cases e : j = i; subst e; exact hle; exact hall j (by omega)⟩
   ·(try simp only [decide_eq_true_eq, decide_eq_false_iff_not, Bool.not_eq_true', Bool.not_eq_false', Bool.not_eq_eq_eq_not, Bool.not_true, Bool.not_false, Int.not_lt, Int.not_le] at hb2)
    have hst : i = l.length ∨ ¬ (prAt l i).1 ≤ x.1 := .inr (by have := hb2; omega)
    refine GW_exit ?_
    refine GW_seq ?_
    refine GW_region ?_
    refine GL_rd (v := v) (wn_none rfl) rfl (rd_move rfl rfl) ?_
    refine GL_rd (wn_none rfl) rfl (rd_loadC rfl rfl Try.underlying32 rfl ts32 (hp.get 1 rfl) rfl) ?_
    refine GL_lit (L := prC x) (wn_none rfl) rfl rfl Try.underlying26 ts32 tz32 rfl (by kernel_rfl) rfl rfl hp ?_
    intro g3 w hp
    refine GL_append (i := 1) (wn_none rfl) rfl rfl rfl rfl Try.underlying26 ti32 rfl (by decide) hp rfl (Sl.row (hp.get 0 rfl)) (prC_one _) (by omega) (by omega) ?_
    intro v2 w hp
    refine GL_rd (v := v2) (wn_none rfl) rfl (rd_assign rfl rfl) ?_
    refine GL_nil ?_
    refine GW_seq ?_
    refine GW_region ?_
    refine GL_rd (v := v2) (wn_none rfl) rfl (rd_move rfl rfl) ?_
    refine GL_rd (v := .slice _ _ _) (wn_none rfl) rfl (rd_move rfl rfl) ?_
    refine GL_rd (v := .int _ _) (wn_none rfl) rfl (rd_move rfl rfl) ?_
    refine GL_rd (wn_none rfl) rfl (rd_sliceS (lo := i) (hi := m) rfl rfl Try.underlying26 ts32 (at_some rfl rfl) to_none (by omega) (by have := (Sl.cap (hs.keep hp.mod)).1; omega)) ?_
    refine GL_append (i := 1) (wn_none rfl) rfl rfl rfl rfl Try.underlying26 ti32 rfl (by decide) hp rfl ((hs.keep hp.mod).cut i m hi0 (Nat.le_refl _)) (fun u hu => flat_one prC_one _ u (List.mem_of_mem_drop (List.mem_of_mem_take hu))) (by omega) (by omega) ?_
    intro v3 w hp
    refine GL_rd (v := v3) (wn_none rfl) rfl (rd_assign rfl rfl) ?_
    refine GL_nil ?_
    refine GW_ret ?_
    refine ⟨_, res1 Try.results18 (rv_tmp (v := v3) rfl rfl), ?_⟩
    have hp := ((hp.front 1 rfl).take 1)
    have e := ins_done hall (by omega) hst
    have e2 : (l.take i).flatMap prC ++ prC x ++ ((l.flatMap prC).drop (i * 2)).take ((m - i) * 2) = (insP x l).flatMap prC := by rw [← e, ← hlen, flat_part prC_len]; simp
    rw [e2, show i + 1 + (m - i) = m + 1 by omega] at hp
    exact hp
  ·intro hb; (try simp only [decide_eq_true_eq, decide_eq_false_iff_not, Bool.not_eq_true', Bool.not_eq_false', Bool.not_eq_eq_eq_not, Bool.not_true, Bool.not_false, Int.not_lt, Int.not_le] at hb)
   have hst : i = l.length ∨ ¬ (prAt l i).1 ≤ x.1 := .inl (by have := hb; omega)
   refine GO_pass rfl (nw_off rfl rfl rfl rfl rfl) rfl ?_
   refine GO_pass rfl (nw_off rfl rfl rfl rfl rfl) rfl ?_
   refine GO_pass rfl (nw_off rfl rfl rfl rfl rfl) rfl ?_
   refine GO_pass rfl (nw_off rfl rfl rfl rfl rfl) rfl ?_
   refine GO_pass rfl (nw_off rfl rfl rfl rfl rfl) rfl ?_
   refine GO_pass rfl (nw_off rfl rfl rfl rfl rfl) rfl ?_
   refine GO_pass rfl (nw_off rfl rfl rfl rfl rfl) rfl ?_
   refine GO_pass rfl (nw_off rfl rfl rfl rfl rfl) rfl ?_
   refine GO_rdT (v := .bool _) rfl (wn_none rfl) rfl (fun w => (rd_pickF rfl rfl rfl)) ?_
   refine GO_nil ?_
   refine GW_false rfl ?_
   refine GW_exit ?_
   refine GW_seq ?_
   refine GW_region ?_
   refine GL_rd (v := v) (wn_none rfl) rfl (rd_move rfl rfl) ?_
   refine GL_rd (wn_none rfl) rfl (rd_loadC rfl rfl Try.underlying32 rfl ts32 (hp.get 1 rfl) rfl) ?_
   refine GL_lit (L := prC x) (wn_none rfl) rfl rfl Try.underlying26 ts32 tz32 rfl (by kernel_rfl) rfl rfl hp ?_
   intro g4 w hp
   refine GL_append (i := 1) (wn_none rfl) rfl rfl rfl rfl Try.underlying26 ti32 rfl (by decide) hp rfl (Sl.row (hp.get 0 rfl)) (prC_one _) (by omega) (by omega) ?_
   intro v4 w hp
   refine GL_rd (v := v4) (wn_none rfl) rfl (rd_assign rfl rfl) ?_
   refine GL_nil ?_
   refine GW_seq ?_
   refine GW_region ?_
   refine GL_rd (v := v4) (wn_none rfl) rfl (rd_move rfl rfl) ?_
   refine GL_rd (v := .slice _ _ _) (wn_none rfl) rfl (rd_move rfl rfl) ?_
   refine GL_rd (v := .int _ _) (wn_none rfl) rfl (rd_move rfl rfl) ?_
   refine GL_rd (wn_none rfl) rfl (rd_sliceS (lo := i) (hi := m) rfl rfl Try.underlying26 ts32 (at_some rfl rfl) to_none (by omega) (by have := (Sl.cap (hs.keep hp.mod)).1; omega)) ?_
   refine GL_append (i := 1) (wn_none rfl) rfl rfl rfl rfl Try.underlying26 ti32 rfl (by decide) hp rfl ((hs.keep hp.mod).cut i m hi0 (Nat.le_refl _)) (fun u hu => flat_one prC_one _ u (List.mem_of_mem_drop (List.mem_of_mem_take hu))) (by omega) (by omega) ?_
   intro v5 w hp
   refine GL_rd (v := v5) (wn_none rfl) rfl (rd_assign rfl rfl) ?_
   refine GL_nil ?_
   refine GW_ret ?_
   refine ⟨_, res1 Try.results18 (rv_tmp (v := v5) rfl rfl), ?_⟩
   have hp := ((hp.front 1 rfl).take 1)
   have e := ins_done hall (by omega) hst
   have e2 : (l.take i).flatMap prC ++ prC x ++ ((l.flatMap prC).drop (i * 2)).take ((m - i) * 2) = (insP x l).flatMap prC := by rw [← e, ← hlen, flat_part prC_len]; simp
   rw [e2, show i + 1 + (m - i) = m + 1 by omega] at hp
   exact hp
 ·have hp := hp.nilRow 32 2
  refine ⟨_, slots4 rfl rfl rfl rfl, hp, Nat.zero_le _, fun j hj => absurd hj (Nat.not_lt_zero _)⟩

theorem agi_New (w0 : World) : Does Try.prog 16 #[] w0 fun v w' => ∃ g, v = .pointer (some ⟨g, 0, none⟩) ∧ Hp w0 [] w' [cells g 143 [.slice none 0 0, .int .i64 0]] := by
 refine does_of (l := []) Try.func16 (by kernel_rfl) rfl Try.ntmps16 rfl rfl ?_
 have hp := Hp.refl w0 []
 refine GW_seq ?_
 refine GW_region ?_
 refine GL_rd (v := _) (wn_none rfl) rfl (rd_assign rfl rfl) ?_
 refine GL_nil ?_
 refine GW_seq ?_
 refine GW_region ?_
 refine GL_rd (wn_none rfl) rfl (rd_buildS (L := [.slice none 0 0, .int .i64 0]) rfl tz143 pl143 (by kernel_rfl)) ?_
 refine GL_box (wn_none rfl) rfl rfl rfl rfl hp ?_
 intro g w hp
 refine GL_rd (v := .pointer (some ⟨_, _, none⟩)) (wn_none rfl) rfl (rd_assign rfl rfl) ?_
 refine GL_nil ?_
 refine GW_ret ?_
 exact ⟨_, res1 Try.results16 (rv_tmp (v := .pointer (some ⟨_, _, none⟩)) rfl rfl), g, rfl, hp⟩

theorem agi_Len (gq : Nat) (sv nv : Value) (m : Nat) (h : List (It Int)) (w0 : World) (hA : (cells gq 143 [sv, nv]).at_ w0) (hR : Sl w0 sv 3 m (h.flatMap (itC (Value.int .i64)))) : Does Try.prog 21 #[.pointer (some ⟨gq, 0, none⟩)] w0 fun v w' => v = .int .i64 (m : Int) ∧ Hp w0 [] w' [] := by
 obtain ⟨A, c, rfl⟩ := sl_shape hR
 have hlen := flat_len (itC_len _) (by decide) hR.len
 have hmle := hR.le
 refine does_of (l := [.pointer (some ⟨gq, 0, none⟩)]) Try.func21 (by kernel_rfl) rfl Try.ntmps21 rfl rfl ?_
 have hp := Hp.refl w0 []
 refine GW_seq ?_
 refine GW_region ?_
 refine GL_rd (v := .int _ _) (wn_none rfl) rfl (rd_assign rfl rfl) ?_
 refine GL_nil ?_
 refine GW_seq ?_
 refine GW_region ?_
 refine GL_rd (v := .pointer (some ⟨_, _, none⟩)) (wn_none rfl) rfl (rd_move rfl rfl) ?_
 refine GL_rd (wn_none rfl) rfl (rd_nilCheck rfl rfl) ?_
 refine GL_rd (wn_none rfl) rfl (rd_field rfl rfl fa143_0 _ rfl) ?_
 refine GL_rd (v := .slice _ _ _) (wn_none rfl) rfl (rd_load rfl rfl Try.underlying141 rfl ((cell_of_cells (cells.keep hA hp.mod) _).trans rfl)) ?_
 refine GL_rd (wn_none rfl) rfl (rd_len rfl rfl Try.underlying141) ?_
 refine GL_rd (v := .int _ _) (wn_none rfl) rfl (rd_assign rfl rfl) ?_
 refine GL_nil ?_
 refine GW_ret ?_
 exact ⟨_, res1 Try.results21 (rv_tmp (v := .int _ _) rfl rfl), rfl, hp.mods⟩

theorem agi_Next (gq : Nat) (sv nv : Value) (m : Nat) (h : List (It Int)) (w0 : World) (hA : (cells gq 143 [sv, nv]).at_ w0) (hR : Sl w0 sv 3 m (h.flatMap (itC (Value.int .i64)))) : Does Try.prog 20 #[.pointer (some ⟨gq, 0, none⟩)] w0 fun v w' => v = .tuple #[.int .i64 (if m = 0 then 0 else (itAt h 0).at_), (if m = 0 then .int .i64 0 else (Value.int .i64) (itAt h 0).wt), .bool (decide (0 < m))] ∧ Hp w0 [] w' [] := by
 obtain ⟨A, c, rfl⟩ := sl_shape hR
 have hlen := flat_len (itC_len _) (by decide) hR.len
 have hmle := hR.le
 refine does_of (l := [.pointer (some ⟨gq, 0, none⟩)]) Try.func20 (by kernel_rfl) rfl Try.ntmps20 rfl rfl ?_
 have hp := Hp.refl w0 []
 refine GW_seq ?_
 refine GW_region ?_
 refine GL_rd (v := .int _ _) (wn_none rfl) rfl (rd_assign rfl rfl) ?_
 refine GL_rd (v := .int _ _) (wn_none rfl) rfl (rd_assign rfl rfl) ?_
 refine GL_rd (v := .bool _) (wn_none rfl) rfl (rd_assign rfl rfl) ?_
 refine GL_nil ?_
 refine GW_seq ?_
 refine GW_seq ?_
 refine GW_region ?_
 refine GL_rd (v := .pointer (some ⟨_, _, none⟩)) (wn_none rfl) rfl (rd_move rfl rfl) ?_
 refine GL_rd (wn_none rfl) rfl (rd_nilCheck rfl rfl) ?_
 refine GL_rd (wn_none rfl) rfl (rd_field rfl rfl fa143_0 _ rfl) ?_
 refine GL_rd (v := .slice _ _ _) (wn_none rfl) rfl (rd_load rfl rfl Try.underlying141 rfl ((cell_of_cells (cells.keep hA hp.mod) _).trans rfl)) ?_
 refine GL_rd (wn_none rfl) rfl (rd_len rfl rfl Try.underlying141) ?_
 refine GL_rd (wn_none rfl) rfl (rd_bin rfl rfl rfl bo_eql) ?_
 refine GL_nil ?_
 refine GW_cond rfl (fun hb => ?_) (fun hb => ?_)
 ·(try simp only [decide_eq_true_eq, decide_eq_false_iff_not, Bool.not_eq_true', Bool.not_eq_false', Bool.not_eq_eq_eq_not, Bool.not_true, Bool.not_false, Int.not_lt, Int.not_le] at hb)
  refine GW_seq ?_
  refine GW_region ?_
  refine GL_rd (v := .int _ _) (wn_none rfl) rfl (rd_assign rfl rfl) ?_
  refine GL_nil ?_
  refine GW_seq ?_
  refine GW_region ?_
  refine GL_rd (v := .int _ _) (wn_none rfl) rfl (rd_move rfl rfl) ?_
  refine GL_rd (v := .int _ _) (wn_none rfl) rfl (rd_assign rfl rfl) ?_
  refine GL_rd (v := .int _ _) (wn_none rfl) rfl (rd_assign rfl rfl) ?_
  refine GL_rd (v := .bool _) (wn_none rfl) rfl (rd_assign rfl rfl) ?_
  refine GL_nil ?_
  refine GW_ret ?_
  exact ⟨_, res3 Try.results20 (rv_tmp (v := .int _ _) rfl rfl) (rv_tmp (v := .int _ _) rfl rfl) (rv_tmp (v := .bool _) rfl rfl), by rw [if_pos (by omega), if_pos (by omega), decide_eq_false (show ¬ 0 < m by omega)], hp.mods⟩
 ·(try simp only [decide_eq_true_eq, decide_eq_false_iff_not, Bool.not_eq_true', Bool.not_eq_false', Bool.not_eq_eq_eq_not, Bool.not_true, Bool.not_false, Int.not_lt, Int.not_le] at hb)
  obtain ⟨gB, bB, rfl⟩ := hR.addr (by rw [flat_length (itC_len _)]; omega)
  refine GW_skip ?_
  refine GW_seq ?_
  refine GW_drawnK 17 (.one 0 true (.one 1 true (.one 2 true (.one 3 true (.one 4 true (.one 5 true (.one 6 true (.one 7 true (.one 8 true (.one 9 true (.one 10 true (.one 11 true (.one 12 true (.one 13 true (.one 14 true (.one 15 true (.one 16 true .nil))))))))))))))))) mixed (by kernel_rfl) hp (fun _ h => h) fun w hp => ?_
  have hpS := hp
  refine GO_rdT (v := .pointer (some ⟨_, _, none⟩)) rfl (wn_none rfl) rfl (fun w => (rd_move rfl rfl)) ?_
  refine GO_rdT rfl (wn_none rfl) rfl (fun w => (rd_nilCheck rfl rfl)) ?_
  refine GO_rdT rfl (wn_none rfl) rfl (fun w => (rd_field rfl rfl fa143_0 _ rfl)) ?_
  refine GO_rd (v := .slice _ _ _) rfl rfl (wn_none rfl) rfl hpS (fun w hp => (rd_load rfl rfl Try.underlying141 rfl ((cell_of_cells (cells.keep hA hp.mod) _).trans rfl))) ?_
  refine GO_rdT rfl (wn_none rfl) rfl (fun w => (rd_indexS (j := 0) rfl rfl rfl Try.underlying141 ts145 rfl (by omega) _ rfl)) ?_
  refine GO_rdT rfl (wn_none rfl) rfl (fun w => (rd_field rfl rfl fa145_0 _ rfl)) ?_
  refine GO_rd rfl rfl (wn_none rfl) rfl hpS (fun w hp => (rd_load rfl rfl Try.underlying3 rfl ((hR.keep hp.mod).get _ _ (it_cell (i := 0) (j := 0) (by omega) rfl (by decide))))) ?_
  refine GO_rdT (v := .pointer (some ⟨_, _, none⟩)) rfl (wn_none rfl) rfl (fun w => (rd_move rfl rfl)) ?_
  refine GO_rdT rfl (wn_none rfl) rfl (fun w => (rd_nilCheck rfl rfl)) ?_
  refine GO_rdT rfl (wn_none rfl) rfl (fun w => (rd_field rfl rfl fa143_0 _ rfl)) ?_
  refine GO_rd (v := .slice _ _ _) rfl rfl (wn_none rfl) rfl hpS (fun w hp => (rd_load rfl rfl Try.underlying141 rfl ((cell_of_cells (cells.keep hA hp.mod) _).trans rfl))) ?_
  refine GO_rdT rfl (wn_none rfl) rfl (fun w => (rd_indexS (j := 0) rfl rfl rfl Try.underlying141 ts145 rfl (by omega) _ rfl)) ?_
  refine GO_rdT rfl (wn_none rfl) rfl (fun w => (rd_field rfl rfl fa145_2 _ rfl)) ?_
  refine GO_rd rfl rfl (wn_none rfl) rfl hpS (fun w hp => (rd_load rfl rfl Try.underlying3 rfl ((hR.keep hp.mod).get _ _ (it_cell (i := 0) (j := 2) (by omega) rfl (by decide))))) ?_
  refine GO_rdT (v := .int _ _) rfl (wn_none rfl) rfl (fun w => (rd_assign rfl rfl)) ?_
  refine GO_rdT (v := .int _ _) rfl (wn_none rfl) rfl (fun w => (rd_assign rfl rfl)) ?_
  refine GO_rdT (v := .bool _) rfl (wn_none rfl) rfl (fun w => (rd_assign rfl rfl)) ?_
  refine GO_nil ?_
  refine GW_ret ?_
  exact ⟨_, res3 Try.results20 (rv_tmp (v := .int _ _) rfl rfl) (rv_tmp (v := .int _ _) rfl rfl) (rv_tmp (v := .bool _) rfl rfl), by rw [if_neg (by omega), if_neg (by omega), decide_eq_true (show 0 < m by omega)], hp.mods⟩

theorem agi_ahead (gq : Nat) (sv nv : Value) (m : Nat) (h : List (It Int)) (i k : Nat) (w0 : World) (hA : (cells gq 143 [sv, nv]).at_ w0) (hR : Sl w0 sv 3 m (h.flatMap (itC (Value.int .i64)))) (hi : i < m) (hk : k < m) : Does Try.prog 96 #[.pointer (some ⟨gq, 0, none⟩), .int .i64 (i : Int), .int .i64 (k : Int)] w0 fun v w' => v = .bool (ltB (itAt h i) (itAt h k)) ∧ Hp w0 [] w' [] := by
 obtain ⟨A, c, rfl⟩ := sl_shape hR
 have hlen := flat_len (itC_len _) (by decide) hR.len
 have hmle := hR.le
 obtain ⟨gB, bB, rfl⟩ := hR.addr (by rw [flat_length (itC_len _)]; omega)
 refine does_of (l := [.pointer (some ⟨gq, 0, none⟩), .int .i64 (i : Int), .int .i64 (k : Int)]) Try.func96 (by kernel_rfl) rfl Try.ntmps96 rfl rfl ?_
 have hp := Hp.refl w0 []
 refine GW_seq ?_
 refine GW_region ?_
 refine GL_rd (v := .bool _) (wn_none rfl) rfl (rd_assign rfl rfl) ?_
 refine GL_nil ?_
 refine GW_cut (fun f_0 w' => ∃ (gx : Nat) (gy : Nat) (fz : _), f_0 = (upd (upd fz 7 (.pointer (some ⟨gx, 0, none⟩))) 8 (.pointer (some ⟨gy, 0, none⟩))) ∧ Hp w0 [] w' [cells gx 145 (itC (Value.int .i64) (itAt h i)), cells gy 145 (itC (Value.int .i64) (itAt h k))]) ?_ ?_
 ·skip
  refine GW_drawnK 18 (.one 0 true (.one 1 true (.one 2 true (.one 3 true (.one 4 true (.one 5 true (.one 6 true (.one 7 true (.one 8 true (.one 9 true (.one 10 true (.one 11 true (.one 12 true (.one 13 true (.two 14 15 (.one 15 false (.one 16 false (.one 17 false .nil))) (.one 14 false (.one 16 false (.one 17 false .nil)))))))))))))))))) mixed (by kernel_rfl) hp (fun _ h => h) fun w hp => ?_
  have hpS := hp
  refine GO_rdT (v := .pointer (some ⟨_, _, none⟩)) rfl (wn_none rfl) rfl (fun w => (rd_move rfl rfl)) ?_
  refine GO_rdT rfl (wn_none rfl) rfl (fun w => (rd_nilCheck rfl rfl)) ?_
  refine GO_rdT rfl (wn_none rfl) rfl (fun w => (rd_field rfl rfl fa143_0 _ rfl)) ?_
  refine GO_rd (v := .slice _ _ _) rfl rfl (wn_none rfl) rfl hpS (fun w hp => (rd_load rfl rfl Try.underlying141 rfl ((cell_of_cells (cells.keep hA hp.mod) _).trans rfl))) ?_
  refine GO_rdT (v := .int _ _) rfl (wn_none rfl) rfl (fun w => (rd_move rfl rfl)) ?_
  refine GO_rdT rfl (wn_none rfl) rfl (fun w => (rd_indexS (j := i) rfl rfl rfl Try.underlying141 ts145 rfl hi _ rfl)) ?_
  refine GO_rd rfl rfl (wn_none rfl) rfl hpS (fun w hp => (rd_loadN (L := itC (Value.int .i64) (itAt h i)) rfl rfl Try.underlying145 rfl ts145 rfl (fun j u hj => (hR.keep hp.mod).elem (itC_len _) i j (itC_lt hj) (itAt_some (by omega)) hj))) ?_
  refine GO_rdT (v := .pointer (some ⟨_, _, none⟩)) rfl (wn_none rfl) rfl (fun w => (rd_move rfl rfl)) ?_
  refine GO_rdT rfl (wn_none rfl) rfl (fun w => (rd_nilCheck rfl rfl)) ?_
  refine GO_rdT rfl (wn_none rfl) rfl (fun w => (rd_field rfl rfl fa143_0 _ rfl)) ?_
  refine GO_rd (v := .slice _ _ _) rfl rfl (wn_none rfl) rfl hpS (fun w hp => (rd_load rfl rfl Try.underlying141 rfl ((cell_of_cells (cells.keep hA hp.mod) _).trans rfl))) ?_
  refine GO_rdT (v := .int _ _) rfl (wn_none rfl) rfl (fun w => (rd_move rfl rfl)) ?_
  refine GO_rdT rfl (wn_none rfl) rfl (fun w => (rd_indexS (j := k) rfl rfl rfl Try.underlying141 ts145 rfl hk _ rfl)) ?_
  refine GO_rd rfl rfl (wn_none rfl) rfl hpS (fun w hp => (rd_loadN (L := itC (Value.int .i64) (itAt h k)) rfl rfl Try.underlying145 rfl ts145 rfl (fun j u hj => (hR.keep hp.mod).elem (itC_len _) k j (itC_lt hj) (itAt_some (by omega)) hj))) ?_
  refine GO_two rfl rfl ?_ ?_
  ·skip
   refine GC_of_GL ?_
   refine GL_alloc (wn_none rfl) rfl rfl tz145 rfl hp ?_
   intro g w hp
   have hpS2 := hp.mods
   refine GL_nil ⟨fun _ => hpS2, ?_⟩
   refine GO_of_GL rfl ?_
   refine GL_alloc (wn_none rfl) rfl rfl tz145 rfl hp ?_
   intro g2 w hp
   have hpS3 := hp.mods
   refine GL_nil ⟨fun _ => hpS3, ?_⟩
   refine GO_of_GL rfl ?_
   refine GL_store (i := 1) (wn_none rfl) rfl rfl rfl rfl ts145 rfl rfl (oneC rfl (oneC rfl (oneC rfl one0))) hp rfl (by first | exact Nat.le_of_ble_eq_true rfl | simp [bys_length, *]) rfl ?_
   intro w hp
   have hpS4 := hp.mods
   refine GL_nil ⟨fun _ => hpS4, ?_⟩
   refine GO_of_GL rfl ?_
   refine GL_store (i := 0) (wn_none rfl) rfl rfl rfl rfl ts145 rfl rfl (oneC rfl (oneC rfl (oneC rfl one0))) hp rfl (by first | exact Nat.le_of_ble_eq_true rfl | simp [bys_length, *]) rfl ?_
   intro w hp
   have hpS5 := hp.mods
   refine GL_nil ⟨fun _ => hpS5, ?_⟩
   refine GO_nil ?_
   have hp := (((hp.front 0 rfl).front 1 rfl).take 2)
   exact ⟨g, g2, _, slots2 rfl rfl, hp⟩
  ·skip
   refine GC_of_GL ?_
   refine GL_alloc (wn_none rfl) rfl rfl tz145 rfl hp ?_
   intro g3 w hp
   have hpS6 := hp.mods
   refine GL_nil ⟨fun _ => hpS6, ?_⟩
   refine GO_of_GL rfl ?_
   refine GL_alloc (wn_none rfl) rfl rfl tz145 rfl hp ?_
   intro g4 w hp
   have hpS7 := hp.mods
   refine GL_nil ⟨fun _ => hpS7, ?_⟩
   refine GO_of_GL rfl ?_
   refine GL_store (i := 0) (wn_none rfl) rfl rfl rfl rfl ts145 rfl rfl (oneC rfl (oneC rfl (oneC rfl one0))) hp rfl (by first | exact Nat.le_of_ble_eq_true rfl | simp [bys_length, *]) rfl ?_
   intro w hp
   have hpS8 := hp.mods
   refine GL_nil ⟨fun _ => hpS8, ?_⟩
   refine GO_of_GL rfl ?_
   refine GL_store (i := 1) (wn_none rfl) rfl rfl rfl rfl ts145 rfl rfl (oneC rfl (oneC rfl (oneC rfl one0))) hp rfl (by first | exact Nat.le_of_ble_eq_true rfl | simp [bys_length, *]) rfl ?_
   intro w hp
   have hpS9 := hp.mods
   refine GL_nil ⟨fun _ => hpS9, ?_⟩
   refine GO_nil ?_
   have hp := (((hp.front 1 rfl).front 1 rfl).take 2)
   exact ⟨g4, g3, _, slots2 rfl rfl, hp⟩
 ·rintro f w ⟨gx, gy, fz, rfl, hp⟩
  refine GW_seq ?_
  refine GW_region ?_
  refine GL_rd (wn_none rfl) rfl (rd_field rfl rfl fa145_0 _ rfl) ?_
  refine GL_rd (wn_none rfl) rfl (rd_load rfl rfl Try.underlying3 rfl ((cell_of_cells (hp.get 0 rfl) _).trans rfl)) ?_
  refine GL_rd (wn_none rfl) rfl (rd_field rfl rfl fa145_0 _ rfl) ?_
  refine GL_rd (wn_none rfl) rfl (rd_load rfl rfl Try.underlying3 rfl ((cell_of_cells (hp.get 1 rfl) _).trans rfl)) ?_
  refine GL_rd (wn_none rfl) rfl (rd_bin rfl rfl rfl bo_lss) ?_
  refine GL_rd (v := .bool _) (wn_none rfl) rfl (rd_move rfl rfl) ?_
  refine GL_split (t := 28) (b := _) rfl ?_ ?_
  ·intro hb; (try simp only [decide_eq_true_eq, decide_eq_false_iff_not, Bool.not_eq_true', Bool.not_eq_false', Bool.not_eq_eq_eq_not, Bool.not_true, Bool.not_false, Int.not_lt, Int.not_le] at hb)
   have e := ltB_t.2 (.inl hb)
   refine GL_pass (nw_off rfl rfl rfl rfl rfl) rfl ?_
   refine GL_pass (nw_off rfl rfl rfl rfl rfl) rfl ?_
   refine GL_pass (nw_off rfl rfl rfl rfl rfl) rfl ?_
   refine GL_pass (nw_off rfl rfl rfl rfl rfl) rfl ?_
   refine GL_pass (nw_off rfl rfl rfl rfl rfl) rfl ?_
   refine GL_pass (nw_off rfl rfl rfl rfl rfl) rfl ?_
   refine GL_pass (nw_undef rfl rfl rfl rfl) rfl ?_
   refine GL_pass (nw_undef rfl rfl rfl rfl) rfl ?_
   refine GL_pass (nw_undef rfl rfl rfl rfl) rfl ?_
   refine GL_pass (nw_undef rfl rfl rfl rfl) rfl ?_
   refine GL_pass (nw_undef rfl rfl rfl rfl) rfl ?_
   refine GL_pass (nw_off rfl rfl rfl rfl rfl) rfl ?_
   refine GL_rd (v := .bool _) (wn_none rfl) rfl (rd_pickT rfl rfl rfl) ?_
   refine GL_rd (v := .bool _) (wn_none rfl) rfl (rd_assign rfl rfl) ?_
   refine GL_nil ?_
   refine GW_ret ?_
   exact ⟨_, res1 Try.results96 (rv_tmp (v := .bool _) rfl rfl), by rw [e], hp.mods⟩
  ·intro hb; (try simp only [decide_eq_true_eq, decide_eq_false_iff_not, Bool.not_eq_true', Bool.not_eq_false', Bool.not_eq_eq_eq_not, Bool.not_true, Bool.not_false, Int.not_lt, Int.not_le] at hb)
   have q1 := hb
   refine GL_rd (wn_on rfl rfl rfl rfl) rfl (rd_field rfl rfl fa145_0 _ rfl) ?_
   refine GL_rd (wn_on rfl rfl rfl rfl) rfl (rd_load rfl rfl Try.underlying3 rfl ((cell_of_cells (hp.get 0 rfl) _).trans rfl)) ?_
   refine GL_rd (wn_on rfl rfl rfl rfl) rfl (rd_field rfl rfl fa145_0 _ rfl) ?_
   refine GL_rd (wn_on rfl rfl rfl rfl) rfl (rd_load rfl rfl Try.underlying3 rfl ((cell_of_cells (hp.get 1 rfl) _).trans rfl)) ?_
   refine GL_rd (wn_on rfl rfl rfl rfl) rfl (rd_bin rfl rfl rfl bo_eql) ?_
   refine GL_rd (v := .bool _) (wn_on rfl rfl rfl rfl) rfl (rd_move rfl rfl) ?_
   refine GL_split (t := 34) (b := _) rfl ?_ ?_
   ·intro hb2; (try simp only [decide_eq_true_eq, decide_eq_false_iff_not, Bool.not_eq_true', Bool.not_eq_false', Bool.not_eq_eq_eq_not, Bool.not_true, Bool.not_false, Int.not_lt, Int.not_le] at hb2)
    have e := ltB_rk hb2
    refine GL_rd (wn_on rfl rfl rfl rfl) rfl (rd_field rfl rfl fa145_1 _ rfl) ?_
    refine GL_rd (wn_on rfl rfl rfl rfl) rfl (rd_load rfl rfl Try.underlying3 rfl ((cell_of_cells (hp.get 0 rfl) _).trans rfl)) ?_
    refine GL_rd (wn_on rfl rfl rfl rfl) rfl (rd_field rfl rfl fa145_1 _ rfl) ?_
    refine GL_rd (wn_on rfl rfl rfl rfl) rfl (rd_load rfl rfl Try.underlying3 rfl ((cell_of_cells (hp.get 1 rfl) _).trans rfl)) ?_
    refine GL_rd (wn_on rfl rfl rfl rfl) rfl (rd_bin rfl rfl rfl bo_lss) ?_
    refine GL_rd (v := .bool _) (wn_on rfl rfl rfl rfl) rfl (rd_pickT rfl rfl rfl) ?_
    refine GL_rd (v := .bool _) (wn_none rfl) rfl (rd_pickF rfl rfl rfl) ?_
    refine GL_rd (v := .bool _) (wn_none rfl) rfl (rd_assign rfl rfl) ?_
    refine GL_nil ?_
    refine GW_ret ?_
    exact ⟨_, res1 Try.results96 (rv_tmp (v := .bool _) rfl rfl), by rw [e], hp.mods⟩
   ·intro hb2; (try simp only [decide_eq_true_eq, decide_eq_false_iff_not, Bool.not_eq_true', Bool.not_eq_false', Bool.not_eq_eq_eq_not, Bool.not_true, Bool.not_false, Int.not_lt, Int.not_le] at hb2)
    have e := ltB_f.2 (show ¬ ((itAt h i).at_ < (itAt h k).at_ ∨ (itAt h i).at_ = (itAt h k).at_ ∧ (itAt h i).rk < (itAt h k).rk) by omega)
    refine GL_pass (nw_off rfl rfl rfl rfl rfl) rfl ?_
    refine GL_pass (nw_off rfl rfl rfl rfl rfl) rfl ?_
    refine GL_pass (nw_off rfl rfl rfl rfl rfl) rfl ?_
    refine GL_pass (nw_off rfl rfl rfl rfl rfl) rfl ?_
    refine GL_pass (nw_off rfl rfl rfl rfl rfl) rfl ?_
    refine GL_rd (v := .bool _) (wn_on rfl rfl rfl rfl) rfl (rd_pickF rfl rfl rfl) ?_
    refine GL_rd (v := .bool _) (wn_none rfl) rfl (rd_pickF rfl rfl rfl) ?_
    refine GL_rd (v := .bool _) (wn_none rfl) rfl (rd_assign rfl rfl) ?_
    refine GL_nil ?_
    refine GW_ret ?_
    exact ⟨_, res1 Try.results96 (rv_tmp (v := .bool _) rfl rfl), by rw [e], hp.mods⟩

theorem agi_Sound (gq : Nat) (sv nv : Value) (m : Nat) (h : List (It Int)) (w0 : World) (hA : (cells gq 143 [sv, nv]).at_ w0) (hR : Sl w0 sv 3 m (h.flatMap (itC (Value.int .i64)))) (hh : HeapL h) : Does Try.prog 22 #[.pointer (some ⟨gq, 0, none⟩)] w0 fun v w' => v = .bool true ∧ Hp w0 [] w' [] := by
 obtain ⟨A, c, rfl⟩ := sl_shape hR
 have hlen := flat_len (itC_len _) (by decide) hR.len
 have hmle := hR.le
 refine does_of (l := [.pointer (some ⟨gq, 0, none⟩)]) Try.func22 (by kernel_rfl) rfl Try.ntmps22 rfl rfl ?_
 have hp := Hp.refl w0 []
 refine GW_seq ?_
 refine GW_region ?_
 refine GL_rd (v := .bool _) (wn_none rfl) rfl (rd_assign rfl rfl) ?_
 refine GL_nil ?_
 refine GW_seq ?_
 refine GW_seq ?_
 refine GW_region ?_
 refine GL_rd (v := .int _ _) (wn_none rfl) rfl (rd_assign rfl rfl) ?_
 refine GL_nil ?_
 refine GW_block ?_
 refine GW_loop ?_
 refine Lp_ind (α := Nat) (fun a_0 f_0 w' => match a_0 with | k => ∃ fz, f_0 = (upd (upd fz 0 (.pointer (some ⟨gq, 0, none⟩))) 3 (.int .i64 (k : Int))) ∧ Hp w0 [] w' [] ∧ (1 ≤ k) ∧ (k ≤ m + 1)) (fun a_0 => match a_0 with | k => m + 1 - k) ?_ 1 _ _ ?_
 ·rintro k f wz ⟨fz, rfl, hp, hk0, hk1⟩ ihL0
  refine Lp_round ?_
  refine GW_seq ?_
  refine GW_seq ?_
  refine GW_region ?_
  refine GL_rd (v := .int _ _) (wn_none rfl) rfl (rd_move rfl rfl) ?_
  refine GL_rd (v := .pointer (some ⟨_, _, none⟩)) (wn_none rfl) rfl (rd_move rfl rfl) ?_
  refine GL_rd (wn_none rfl) rfl (rd_nilCheck rfl rfl) ?_
  refine GL_rd (wn_none rfl) rfl (rd_field rfl rfl fa143_0 _ rfl) ?_
  refine GL_rd (v := .slice _ _ _) (wn_none rfl) rfl (rd_load rfl rfl Try.underlying141 rfl ((cell_of_cells (cells.keep hA hp.mod) _).trans rfl)) ?_
  refine GL_rd (wn_none rfl) rfl (rd_len rfl rfl Try.underlying141) ?_
  refine GL_rd (wn_none rfl) rfl (rd_bin rfl rfl rfl bo_lss) ?_
  refine GL_nil ?_
  refine GW_cond rfl (fun hb => ?_) (fun hb => ?_)
  ·(try simp only [decide_eq_true_eq, decide_eq_false_iff_not, Bool.not_eq_true', Bool.not_eq_false', Bool.not_eq_eq_eq_not, Bool.not_true, Bool.not_false, Int.not_lt, Int.not_le] at hb)
   refine GW_skip ?_
   refine GW_seq ?_
   refine GW_block ?_
   refine GW_seq ?_
   refine GW_region ?_
   refine GL_rd (v := .pointer (some ⟨_, _, none⟩)) (wn_none rfl) rfl (rd_move rfl rfl) ?_
   refine GL_rd (v := .int _ _) (wn_none rfl) rfl (rd_move rfl rfl) ?_
   refine GL_rd (v := .int _ _) (wn_none rfl) rfl (rd_move rfl rfl) ?_
   refine GL_rd (wn_none rfl) rfl (rd_bin rfl rfl rfl (bo_int (bo_sub64 (by omega)) (by omega : (k : Int) - 1 = ((k - 1 : Nat) : Int)))) ?_
   refine GL_rd (wn_none rfl) rfl (rd_bin rfl rfl rfl (bo_int (bo_quo64 (by omega) (by omega) (by omega)) (by omega : ((k - 1 : Nat) : Int) / 2 = (((k - 1) / 2 : Nat) : Int)))) ?_
   refine GL_call (wn_none rfl) rfl rfl (agi_ahead gq _ nv m h k ((k - 1) / 2) _ (cells.keep hA hp.mod) (hR.keep hp.mod) (by omega) (by omega)) rfl ?_
   rintro _ w ⟨rfl, hk⟩
   have hp := hp.comp hk
   rw [hh k (by omega) (by omega)]
   refine GL_nil ?_
   refine GW_cond rfl (fun hb2 => ?_) (fun hb2 => ?_)
   ·(try simp only [decide_eq_true_eq, decide_eq_false_iff_not, Bool.not_eq_true', Bool.not_eq_false', Bool.not_eq_eq_eq_not, Bool.not_true, Bool.not_false, Int.not_lt, Int.not_le] at hb2)
    cases hb2
   ·(try simp only [decide_eq_true_eq, decide_eq_false_iff_not, Bool.not_eq_true', Bool.not_eq_false', Bool.not_eq_eq_eq_not, Bool.not_true, Bool.not_false, Int.not_lt, Int.not_le] at hb2)
    refine GW_skip ?_
    refine GW_region ?_
    refine GL_rd (v := .int _ _) (wn_none rfl) rfl (rd_move rfl rfl) ?_
    refine GL_rd (wn_none rfl) rfl (rd_bin rfl rfl rfl (bo_add64 (by omega))) ?_
    refine GL_rd (v := .int _ _) (wn_none rfl) rfl (rd_assign rfl rfl) ?_
    refine GL_nil ?_
    exact ihL0 (k + 1) _ _ (by simp only []; omega) ⟨_, slots2 rfl rfl, hp, by omega, by omega⟩
  ·(try simp only [decide_eq_true_eq, decide_eq_false_iff_not, Bool.not_eq_true', Bool.not_eq_false', Bool.not_eq_eq_eq_not, Bool.not_true, Bool.not_false, Int.not_lt, Int.not_le] at hb)
   refine GW_exit ?_
   refine GW_seq ?_
   refine GW_region ?_
   refine GL_rd (v := .bool _) (wn_none rfl) rfl (rd_assign rfl rfl) ?_
   refine GL_nil ?_
   refine GW_ret ?_
   exact ⟨_, res1 Try.results22 (rv_tmp (v := .bool _) rfl rfl), rfl, hp.mods⟩
 ·refine ⟨_, slots2 rfl rfl, hp, Nat.le_refl _, by omega⟩

theorem agi_Add (gq : Nat) (sv : Value) (n m : Nat) (h : List (It Int)) (F0 : List Nat) (t : Int) (x : Int) (w0 : World) (hn : n ≤ 1000000) (hm : m ≤ 1000000) (hh0 : HeapL h) (hp0 : Hp w0 F0 w0 [cells gq 143 [sv, .int .i64 (n : Int)], .row 145 3 sv m (h.flatMap (itC (Value.int .i64)))]) : Does Try.prog 17 #[.pointer (some ⟨gq, 0, none⟩), .int .i64 t, (Value.int .i64) x] w0 fun v w' => ∃ sv2 h2, v = .tuple #[] ∧ h2.Perm (h ++ [⟨t, n, x⟩]) ∧ HeapL h2 ∧ Hp w0 F0 w' [cells gq 143 [sv2, .int .i64 ((n + 1 : Nat) : Int)], .row 145 3 sv2 (m + 1) (h2.flatMap (itC (Value.int .i64)))] := by
 obtain ⟨A, c, rfl⟩ := row_shape (hp0.get 1 rfl)
 have hlen := flat_len (itC_len _) (by decide) (row_len (hp0.get 1 rfl))
 have hmle := (Sl.row (hp0.get 1 rfl)).le
 refine does_of (l := [.pointer (some ⟨gq, 0, none⟩), .int .i64 t, (Value.int .i64) x]) Try.func17 (by kernel_rfl) rfl Try.ntmps17 rfl rfl ?_
 have hp := hp0
 refine GW_seq ?_
 refine GW_drawnK 16 (.one 0 true (.one 1 true (.one 2 true (.one 3 true (.one 4 true (.one 5 true (.one 6 true (.one 7 true (.one 8 true (.one 9 true (.one 10 true (.one 11 true (.one 12 false (.one 13 false (.one 14 true (.one 15 true (.one 16 false .nil))))))))))))))))) mixed (by kernel_rfl) hp (fun _ h => (h.sub (.cons_cons _ (.cons _ .slnil)))) fun w hp => ?_
 have hpS := (hp.sub (.cons_cons _ (.cons _ .slnil)))
 refine GO_rdT (v := .pointer (some ⟨_, _, none⟩)) rfl (wn_none rfl) rfl (fun w => (rd_move rfl rfl)) ?_
 refine GO_rdT (v := .pointer (some ⟨_, _, none⟩)) rfl (wn_none rfl) rfl (fun w => (rd_move rfl rfl)) ?_
 refine GO_rdT rfl (wn_none rfl) rfl (fun w => (rd_nilCheck rfl rfl)) ?_
 refine GO_rdT rfl (wn_none rfl) rfl (fun w => (rd_field rfl rfl fa143_0 _ rfl)) ?_
 refine GO_rd (v := .slice _ _ _) rfl rfl (wn_none rfl) rfl hpS (fun w hp => (rd_load rfl rfl Try.underlying141 rfl ((cell_of_cells (hp.get 0 rfl) _).trans rfl))) ?_
 refine GO_rdT (v := .int _ _) rfl (wn_none rfl) rfl (fun w => (rd_move rfl rfl)) ?_
 refine GO_rdT (v := .pointer (some ⟨_, _, none⟩)) rfl (wn_none rfl) rfl (fun w => (rd_move rfl rfl)) ?_
 refine GO_rdT rfl (wn_none rfl) rfl (fun w => (rd_nilCheck rfl rfl)) ?_
 refine GO_rdT rfl (wn_none rfl) rfl (fun w => (rd_field rfl rfl fa143_1 _ rfl)) ?_
 refine GO_rd rfl rfl (wn_none rfl) rfl hpS (fun w hp => (rd_load rfl rfl Try.underlying3 rfl ((cell_of_cells (hp.get 0 rfl) _).trans rfl))) ?_
 refine GO_rdT (v := .int _ _) rfl (wn_none rfl) rfl (fun w => (rd_move rfl rfl)) ?_
 refine GO_rd rfl rfl (wn_none rfl) rfl hpS (fun w hp => (rd_buildS (L := itC (Value.int .i64) ⟨t, n, x⟩) rfl tz145 pl145 (by kernel_rfl))) ?_
 refine GO_of_GL rfl ?_
 refine GL_lit (L := itC (Value.int .i64) ⟨t, n, x⟩) (wn_none rfl) rfl rfl Try.underlying141 ts145 tz145 rfl (by kernel_rfl) rfl rfl hp ?_
 intro g w hp
 have hpS2 := (hp.sub (.cons _ (.cons_cons _ (.cons _ .slnil))))
 refine GL_nil ⟨fun _ => hpS2, ?_⟩
 refine GO_of_GL rfl ?_
 refine GL_append (i := 2) (wn_none rfl) rfl rfl rfl rfl Try.underlying141 ti145 rfl (by decide) hp rfl (Sl.row (hp.get 0 rfl)) (itC_one _) (by omega) (by omega) ?_
 intro v w hp
 obtain ⟨Av, cv, rfl⟩ := row_shape (hp.get 2 rfl)
 rw [← flat_snoc] at hp
 obtain ⟨gR, cap, hq, hcap⟩ := row_addr (hp.get 2 rfl) (by omega)
 injection hq with h1 h2 h3
 subst h1 h3
 have hpS3 := (hp.sub (.cons _ (.cons_cons _ (.cons _ .slnil))))
 refine GL_nil ⟨fun _ => hpS3, ?_⟩
 refine GO_rdT rfl (wn_none rfl) rfl (fun w => (rd_nilCheck rfl rfl)) ?_
 refine GO_rdT rfl (wn_none rfl) rfl (fun w => (rd_field rfl rfl fa143_0 _ rfl)) ?_
 refine GO_of_GL rfl ?_
 refine GL_store (i := 1) (wn_none rfl) rfl rfl rfl rfl ts141 rfl rfl (one1 rfl) hp rfl (by first | exact Nat.le_of_ble_eq_true rfl | simp [bys_length, *]) rfl ?_
 intro w hp
 refine GL_nil ⟨fun h => absurd h (by decide), ?_⟩
 refine GO_nil ?_
 refine GW_seq ?_
 refine GW_region ?_
 refine GL_rd (v := .pointer (some ⟨_, _, none⟩)) (wn_none rfl) rfl (rd_move rfl rfl) ?_
 refine GL_rd (wn_none rfl) rfl (rd_nilCheck rfl rfl) ?_
 refine GL_rd (wn_none rfl) rfl (rd_field rfl rfl fa143_1 _ rfl) ?_
 refine GL_rd (wn_none rfl) rfl (rd_load rfl rfl Try.underlying3 rfl ((cell_of_cells (hp.get 1 rfl) _).trans rfl)) ?_
 refine GL_rd (wn_none rfl) rfl (rd_bin rfl rfl rfl (bo_add64 (by omega))) ?_
 refine GL_rd (wn_none rfl) rfl (rd_nilCheck rfl rfl) ?_
 refine GL_rd (wn_none rfl) rfl (rd_field rfl rfl fa143_1 _ rfl) ?_
 refine GL_store (i := 1) (wn_none rfl) rfl rfl rfl rfl ts3 rfl rfl (one1 rfl) hp rfl (by first | exact Nat.le_of_ble_eq_true rfl | simp [bys_length, *]) rfl ?_
 intro w hp
 refine GL_nil ?_
 refine GW_seq ?_
 refine GW_region ?_
 refine GL_rd (v := .pointer (some ⟨_, _, none⟩)) (wn_none rfl) rfl (rd_move rfl rfl) ?_
 refine GL_rd (wn_none rfl) rfl (rd_nilCheck rfl rfl) ?_
 refine GL_rd (wn_none rfl) rfl (rd_field rfl rfl fa143_0 _ rfl) ?_
 refine GL_rd (v := .slice _ _ _) (wn_none rfl) rfl (rd_load rfl rfl Try.underlying141 rfl ((cell_of_cells (hp.get 1 rfl) _).trans rfl)) ?_
 refine GL_rd (wn_none rfl) rfl (rd_len rfl rfl Try.underlying141) ?_
 refine GL_rd (wn_none rfl) rfl (rd_bin rfl rfl rfl (bo_sub64 (by omega))) ?_
 refine GL_rd (v := .int _ _) (wn_none rfl) rfl (rd_assign rfl rfl) ?_
 refine GL_nil ?_
 refine GW_block ?_
 refine GW_loop ?_
 refine Lp_ind (α := Nat × List (It Int)) (fun a_0 f_0 w' => match a_0 with | (i, hh) => ∃ fz, f_0 = (upd (upd fz 0 (.pointer (some ⟨gq, 0, none⟩))) 6 (.int .i64 (i : Int))) ∧ Hp w0 F0 w' [cells gq 143 [(.slice (some ⟨gR, 0, none⟩) (m + 1) cv), .int .i64 ((n : Int) + 1)], .row 145 3 (.slice (some ⟨gR, 0, none⟩) (m + 1) cv) (m + 1) (hh.flatMap (itC (Value.int .i64)))] ∧ (i ≤ m) ∧ (hh.Perm (h ++ [⟨t, n, x⟩])) ∧ (UpI hh i)) (fun a_0 => match a_0 with | (i, hh) => i) ?_ (m, h ++ [⟨t, n, x⟩]) _ _ ?_
 ·rintro ⟨i, hh⟩ f wz ⟨fz, rfl, hp, hi0, hperm, hup⟩ ihL0
  have hl2 : hh.length = m + 1 := by rw [hperm.length_eq, List.length_append, hlen]; rfl
  refine Lp_round ?_
  refine GW_seq ?_
  refine GW_seq ?_
  refine GW_region ?_
  refine GL_rd (v := .int _ _) (wn_none rfl) rfl (rd_move rfl rfl) ?_
  refine GL_rd (wn_none rfl) rfl (rd_bin rfl rfl rfl bo_gtr) ?_
  refine GL_nil ?_
  refine GW_cond rfl (fun hb => ?_) (fun hb => ?_)
  ·(try simp only [decide_eq_true_eq, decide_eq_false_iff_not, Bool.not_eq_true', Bool.not_eq_false', Bool.not_eq_eq_eq_not, Bool.not_true, Bool.not_false, Int.not_lt, Int.not_le] at hb)
   refine GW_skip ?_
   refine GW_block ?_
   refine GW_seq ?_
   refine GW_region ?_
   refine GL_rd (v := .int _ _) (wn_none rfl) rfl (rd_move rfl rfl) ?_
   refine GL_rd (wn_none rfl) rfl (rd_bin rfl rfl rfl (bo_sub64 (by omega))) ?_
   refine GL_rd (wn_none rfl) rfl (rd_bin rfl rfl rfl (bo_int (bo_quo64 (by omega) (by omega) (by omega)) (by omega : ((i : Int) - 1) / 2 = ((((i - 1) / 2) : Nat) : Int)))) ?_
   refine GL_rd (v := .int _ _) (wn_none rfl) rfl (rd_assign rfl rfl) ?_
   refine GL_nil ?_
   refine GW_seq ?_
   refine GW_seq ?_
   refine GW_region ?_
   refine GL_rd (v := .pointer (some ⟨_, _, none⟩)) (wn_none rfl) rfl (rd_move rfl rfl) ?_
   refine GL_rd (v := .int _ _) (wn_none rfl) rfl (rd_move rfl rfl) ?_
   refine GL_rd (v := .int _ _) (wn_none rfl) rfl (rd_move rfl rfl) ?_
   refine GL_call (wn_none rfl) rfl rfl (agi_ahead gq _ _ _ hh i ((i - 1) / 2) _ (hp.get 0 rfl) (Sl.row (hp.get 1 rfl)) (by omega) (by omega)) rfl ?_
   rintro _ w ⟨rfl, hk⟩
   have hp := hp.comp hk
   refine GL_rd (wn_none rfl) rfl (rd_not rfl rfl) ?_
   refine GL_nil ?_
   refine GW_cond rfl (fun hb2 => ?_) (fun hb2 => ?_)
   ·(try simp only [decide_eq_true_eq, decide_eq_false_iff_not, Bool.not_eq_true', Bool.not_eq_false', Bool.not_eq_eq_eq_not, Bool.not_true, Bool.not_false, Int.not_lt, Int.not_le] at hb2)
    have hheap := up_stop hup (.inr hb2)
    refine GW_exit ?_
    exact ⟨_, res0 Try.results17 , (.slice (some ⟨gR, 0, none⟩) (m + 1) cv), hh, rfl, hperm, hheap, hp⟩
   ·(try simp only [decide_eq_true_eq, decide_eq_false_iff_not, Bool.not_eq_true', Bool.not_eq_false', Bool.not_eq_eq_eq_not, Bool.not_true, Bool.not_false, Int.not_lt, Int.not_le] at hb2)
    have hah := hb2
    have hupl : ((i - 1) / 2) < m + 1 := by omega
    refine GW_skip ?_
    refine GW_seq ?_
    refine GW_drawnK 25 (.one 0 true (.one 1 true (.one 2 true (.one 3 true (.one 4 true (.one 5 true (.one 6 true (.one 7 true (.one 8 true (.one 9 true (.one 10 true (.one 11 true (.one 12 true (.one 13 true (.one 14 true (.one 15 true (.one 16 true (.one 17 true (.one 18 true (.one 19 true (.one 20 true (.one 21 true (.one 22 true (.one 23 true (.one 24 true (.one 25 false (.one 26 false (.one 27 false .nil)))))))))))))))))))))))))))) mixed (by kernel_rfl) hp (fun _ h => h) fun w hp => ?_
    have hpS4 := hp
    refine GO_rdT (v := .pointer (some ⟨_, _, none⟩)) rfl (wn_none rfl) rfl (fun w => (rd_move rfl rfl)) ?_
    refine GO_rdT rfl (wn_none rfl) rfl (fun w => (rd_nilCheck rfl rfl)) ?_
    refine GO_rdT rfl (wn_none rfl) rfl (fun w => (rd_field rfl rfl fa143_0 _ rfl)) ?_
    refine GO_rd (v := .slice _ _ _) rfl rfl (wn_none rfl) rfl hpS4 (fun w hp => (rd_load rfl rfl Try.underlying141 rfl ((cell_of_cells (hp.get 0 rfl) _).trans rfl))) ?_
    refine GO_rdT (v := .int _ _) rfl (wn_none rfl) rfl (fun w => (rd_move rfl rfl)) ?_
    refine GO_rdT (v := .pointer (some ⟨_, _, none⟩)) rfl (wn_none rfl) rfl (fun w => (rd_move rfl rfl)) ?_
    refine GO_rdT rfl (wn_none rfl) rfl (fun w => (rd_nilCheck rfl rfl)) ?_
    refine GO_rdT rfl (wn_none rfl) rfl (fun w => (rd_field rfl rfl fa143_0 _ rfl)) ?_
    refine GO_rd (v := .slice _ _ _) rfl rfl (wn_none rfl) rfl hpS4 (fun w hp => (rd_load rfl rfl Try.underlying141 rfl ((cell_of_cells (hp.get 0 rfl) _).trans rfl))) ?_
    refine GO_rdT (v := .int _ _) rfl (wn_none rfl) rfl (fun w => (rd_move rfl rfl)) ?_
    refine GO_rdT (v := .pointer (some ⟨_, _, none⟩)) rfl (wn_none rfl) rfl (fun w => (rd_move rfl rfl)) ?_
    refine GO_rdT rfl (wn_none rfl) rfl (fun w => (rd_nilCheck rfl rfl)) ?_
    refine GO_rdT rfl (wn_none rfl) rfl (fun w => (rd_field rfl rfl fa143_0 _ rfl)) ?_
    refine GO_rd (v := .slice _ _ _) rfl rfl (wn_none rfl) rfl hpS4 (fun w hp => (rd_load rfl rfl Try.underlying141 rfl ((cell_of_cells (hp.get 0 rfl) _).trans rfl))) ?_
    refine GO_rdT (v := .int _ _) rfl (wn_none rfl) rfl (fun w => (rd_move rfl rfl)) ?_
    refine GO_rdT rfl (wn_none rfl) rfl (fun w => (rd_indexS (j := ((i - 1) / 2)) rfl rfl rfl Try.underlying141 ts145 rfl (by omega) _ rfl)) ?_
    refine GO_rd rfl rfl (wn_none rfl) rfl hpS4 (fun w hp => (rd_loadN (L := itC (Value.int .i64) (itAt hh ((i - 1) / 2))) rfl rfl Try.underlying145 rfl ts145 rfl (fun j u hj => (Sl.row (hp.get 1 rfl)).elem (itC_len _) ((i - 1) / 2) j (itC_lt hj) (itAt_some (by omega)) hj))) ?_
    refine GO_rdT (v := .pointer (some ⟨_, _, none⟩)) rfl (wn_none rfl) rfl (fun w => (rd_move rfl rfl)) ?_
    refine GO_rdT rfl (wn_none rfl) rfl (fun w => (rd_nilCheck rfl rfl)) ?_
    refine GO_rdT rfl (wn_none rfl) rfl (fun w => (rd_field rfl rfl fa143_0 _ rfl)) ?_
    refine GO_rd (v := .slice _ _ _) rfl rfl (wn_none rfl) rfl hpS4 (fun w hp => (rd_load rfl rfl Try.underlying141 rfl ((cell_of_cells (hp.get 0 rfl) _).trans rfl))) ?_
    refine GO_rdT (v := .int _ _) rfl (wn_none rfl) rfl (fun w => (rd_move rfl rfl)) ?_
    refine GO_rdT rfl (wn_none rfl) rfl (fun w => (rd_indexS (j := i) rfl rfl rfl Try.underlying141 ts145 rfl (by omega) _ rfl)) ?_
    refine GO_rd rfl rfl (wn_none rfl) rfl hpS4 (fun w hp => (rd_loadN (L := itC (Value.int .i64) (itAt hh i)) rfl rfl Try.underlying145 rfl ts145 rfl (fun j u hj => (Sl.row (hp.get 1 rfl)).elem (itC_len _) i j (itC_lt hj) (itAt_some (by omega)) hj))) ?_
    refine GO_rdT rfl (wn_none rfl) rfl (fun w => (rd_indexS (j := i) rfl rfl rfl Try.underlying141 ts145 rfl (by omega) _ rfl)) ?_
    refine GO_of_GL rfl ?_
    refine GL_storeR (i := 1) (wn_none rfl) rfl rfl rfl rfl ts145 rfl rfl (itC_one _) hp rfl rfl (by rw [flat_length (itC_len _)]; (try rw [List.length_set]); omega) (flat_set0 (itC_len _) hh i (itAt hh ((i - 1) / 2)) (by (try rw [List.length_set]); omega)) ?_
    intro w hp
    refine GL_nil ⟨fun h => absurd h (by decide), ?_⟩
    refine GO_of_GL rfl ?_
    refine GL_rd (wn_none rfl) rfl (rd_indexS (j := ((i - 1) / 2)) rfl rfl rfl Try.underlying141 ts145 rfl hupl _ rfl) (GL_nil ⟨fun h => absurd h (by decide), ?_⟩)
    refine GO_of_GL rfl ?_
    refine GL_storeR (i := 1) (wn_none rfl) rfl rfl rfl rfl ts145 rfl rfl (itC_one _) hp rfl rfl (by rw [flat_length (itC_len _)]; (try rw [List.length_set]); omega) (flat_set0 (itC_len _) _ ((i - 1) / 2) (itAt hh i) (by (try rw [List.length_set]); omega)) ?_
    intro w hp
    refine GL_nil ⟨fun h => absurd h (by decide), ?_⟩
    refine GO_nil ?_
    refine GW_region ?_
    refine GL_rd (v := .int _ _) (wn_none rfl) rfl (rd_move rfl rfl) ?_
    refine GL_rd (v := .int _ _) (wn_none rfl) rfl (rd_assign rfl rfl) ?_
    refine GL_nil ?_
    exact ihL0 (((i - 1) / 2), swapI hh i ((i - 1) / 2)) _ _ (by simp only []; omega) ⟨_, slots2 rfl rfl, hp, by omega, (swap_perm (by omega) (by omega)).trans hperm, up_step hup (by omega) (by omega) hah⟩
  ·(try simp only [decide_eq_true_eq, decide_eq_false_iff_not, Bool.not_eq_true', Bool.not_eq_false', Bool.not_eq_eq_eq_not, Bool.not_true, Bool.not_false, Int.not_lt, Int.not_le] at hb)
   have hheap := up_stop hup (.inl (by omega))
   refine GW_exit ?_
   exact ⟨_, res0 Try.results17 , (.slice (some ⟨gR, 0, none⟩) (m + 1) cv), hh, rfl, hperm, hheap, hp⟩
 ·have hp := (((hp.front 2 rfl).front 2 rfl).take 2)
  refine ⟨_, slots2 rfl (congrArg (Value.int .i64) (by omega)), hp, Nat.le_refl _, .refl _, by rw [← hlen]; exact up_first hh0 _⟩

theorem agi_sink (gq : Nat) (sv : Value) (n m : Nat) (h : List (It Int)) (F0 : List Nat) (w0 : World) (hm : m ≤ 1000000) (hd0 : DownI h 0) (hp0 : Hp w0 F0 w0 [cells gq 143 [sv, .int .i64 (n : Int)], .row 145 3 sv m (h.flatMap (itC (Value.int .i64)))]) : Does Try.prog 97 #[.pointer (some ⟨gq, 0, none⟩)] w0 fun v w' => ∃ h2, v = .tuple #[] ∧ h2.Perm h ∧ HeapL h2 ∧ Hp w0 F0 w' [cells gq 143 [sv, .int .i64 (n : Int)], .row 145 3 sv m (h2.flatMap (itC (Value.int .i64)))] := by
 obtain ⟨A, c, rfl⟩ := row_shape (hp0.get 1 rfl)
 have hlen := flat_len (itC_len _) (by decide) (row_len (hp0.get 1 rfl))
 have hmle := (Sl.row (hp0.get 1 rfl)).le
 refine does_of (l := [.pointer (some ⟨gq, 0, none⟩)]) Try.func97 (by kernel_rfl) rfl Try.ntmps97 rfl rfl ?_
 have hp := hp0
 refine GW_seq ?_
 refine GW_region ?_
 refine GL_rd (v := .int _ _) (wn_none rfl) rfl (rd_assign rfl rfl) ?_
 refine GL_nil ?_
 refine GW_block ?_
 refine GW_loop ?_
 refine Lp_ind (α := Nat × List (It Int)) (fun a_0 f_0 w' => match a_0 with | (i, hh) => ∃ fz, f_0 = (upd (upd fz 0 (.pointer (some ⟨gq, 0, none⟩))) 2 (.int .i64 (i : Int))) ∧ Hp w0 F0 w' [cells gq 143 [(.slice A m c), .int .i64 (n : Int)], .row 145 3 (.slice A m c) m (hh.flatMap (itC (Value.int .i64)))] ∧ (i ≤ m) ∧ (hh.Perm h) ∧ (DownI hh i)) (fun a_0 => match a_0 with | (i, hh) => m - i) ?_ (0, h) _ _ ?_
 ·rintro ⟨i, hh⟩ f wz ⟨fz, rfl, hp, hi0, hperm, hdn⟩ ihL0
  have hl2 : hh.length = m := by rw [hperm.length_eq, hlen]
  refine Lp_round ?_
  refine GW_block ?_
  refine GW_seq ?_
  refine GW_region ?_
  refine GL_rd (v := .int _ _) (wn_none rfl) rfl (rd_move rfl rfl) ?_
  refine GL_rd (v := .int _ _) (wn_none rfl) rfl (rd_assign rfl rfl) ?_
  refine GL_nil ?_
  refine GW_seq ?_
  refine GW_seq ?_
  refine GW_region ?_
  refine GL_rd (v := .int _ _) (wn_none rfl) rfl (rd_move rfl rfl) ?_
  refine GL_rd (wn_none rfl) rfl (rd_bin rfl rfl rfl (bo_mul64 (by omega))) ?_
  refine GL_rd (wn_none rfl) rfl (rd_bin rfl rfl rfl (bo_add64 (by omega))) ?_
  refine GL_rd (v := .int _ _) (wn_none rfl) rfl (rd_move rfl rfl) ?_
  refine GL_rd (wn_none rfl) rfl (rd_bin rfl rfl rfl (bo_mul64 (by omega))) ?_
  refine GL_rd (wn_none rfl) rfl (rd_bin rfl rfl rfl (bo_add64 (by omega))) ?_
  refine GL_rd (wn_none rfl) rfl (rd_buildA (L := [.int .i64 (2 * (i : Int) + 1), .int .i64 (2 * (i : Int) + 2)]) rfl tz222 Try.underlying222 ts3 (by kernel_rfl)) ?_
  refine GL_rd (v := .int _ _) (wn_none rfl) rfl (rd_move rfl rfl) ?_
  refine GL_nil ?_
  refine GW_block ?_
  refine GW_loop ?_
  refine Lp_ind (α := Nat × Nat) (fun a_0 f_0 w' => match a_0 with | (j, b) => ∃ fz, f_0 = (upd (upd (upd (upd (upd fz 0 (.pointer (some ⟨gq, 0, none⟩))) 2 (.int .i64 (i : Int))) 3 (.int .i64 (b : Int))) 13 (.agg ⟨[.int .i64 (2 * (i : Int) + 1), .int .i64 (2 * (i : Int) + 2)]⟩)) 14 (.int .i64 (j : Int))) ∧ Hp w0 F0 w' [cells gq 143 [(.slice A m c), .int .i64 (n : Int)], .row 145 3 (.slice A m c) m (hh.flatMap (itC (Value.int .i64)))] ∧ (j ≤ 2) ∧ (BestI hh i j b)) (fun a_0 => match a_0 with | (j, b) => 2 - j) ?_ (0, i) _ _ ?_
  ·rintro ⟨j, b⟩ f wz ⟨fz, rfl, hp, hj, hbest⟩ ihL1
   have hbl : b < m ∨ b = i := by rcases hbest.1 with e | ⟨_, e, _⟩ <;> omega
   refine Lp_round ?_
   refine GW_seq ?_
   refine GW_region ?_
   refine GL_rd (wn_none rfl) rfl (rd_bin rfl rfl rfl bo_lss) ?_
   refine GL_nil ?_
   refine GW_seq ?_
   refine GW_cond rfl (fun hb => ?_) (fun hb => ?_)
   ·(try simp only [decide_eq_true_eq, decide_eq_false_iff_not, Bool.not_eq_true', Bool.not_eq_false', Bool.not_eq_eq_eq_not, Bool.not_true, Bool.not_false, Int.not_lt, Int.not_le] at hb)
    refine GW_skip ?_
    refine GW_seq ?_
    refine GW_block ?_
    refine GW_seq ?_
    refine GW_region ?_
    refine GL_rd (wn_none rfl) rfl (rd_indexV (j := j) rfl rfl rfl Try.underlying222 Try.underlying3 rfl ts3 rfl (by omega) (by rcases (show j = 0 ∨ j = 1 by omega) with rfl | rfl <;> rfl : _ = some (.int .i64 ((2 * i + 1 + j : Nat) : Int)))) ?_
    refine GL_rd (v := .int _ _) (wn_none rfl) rfl (rd_assign rfl rfl) ?_
    refine GL_nil ?_
    refine GW_seq ?_
    refine GW_region ?_
    refine GL_rd (v := .int _ _) (wn_none rfl) rfl (rd_move rfl rfl) ?_
    refine GL_rd (v := .pointer (some ⟨_, _, none⟩)) (wn_none rfl) rfl (rd_move rfl rfl) ?_
    refine GL_rd (wn_none rfl) rfl (rd_nilCheck rfl rfl) ?_
    refine GL_rd (wn_none rfl) rfl (rd_field rfl rfl fa143_0 _ rfl) ?_
    refine GL_rd (v := .slice _ _ _) (wn_none rfl) rfl (rd_load rfl rfl Try.underlying141 rfl ((cell_of_cells (hp.get 0 rfl) _).trans rfl)) ?_
    refine GL_rd (wn_none rfl) rfl (rd_len rfl rfl Try.underlying141) ?_
    refine GL_rd (wn_none rfl) rfl (rd_bin rfl rfl rfl bo_lss) ?_
    refine GL_rd (v := .bool _) (wn_none rfl) rfl (rd_move rfl rfl) ?_
    refine GL_split (t := 24) (b := _) rfl ?_ ?_
    ·intro hb2; (try simp only [decide_eq_true_eq, decide_eq_false_iff_not, Bool.not_eq_true', Bool.not_eq_false', Bool.not_eq_eq_eq_not, Bool.not_true, Bool.not_false, Int.not_lt, Int.not_le] at hb2)
     have hlt : 2 * i + 1 + j < m := by have := hb2; omega
     refine GL_rd (v := .pointer (some ⟨_, _, none⟩)) (wn_on rfl rfl rfl rfl) rfl (rd_move rfl rfl) ?_
     refine GL_rd (v := .int _ _) (wn_on rfl rfl rfl rfl) rfl (rd_move rfl rfl) ?_
     refine GL_rd (v := .int _ _) (wn_on rfl rfl rfl rfl) rfl (rd_move rfl rfl) ?_
     refine GL_call (wn_on rfl rfl rfl rfl) rfl rfl (agi_ahead gq _ _ _ hh (2 * i + 1 + j) b _ (hp.get 0 rfl) (Sl.row (hp.get 1 rfl)) (by omega) (by omega)) rfl ?_
     rintro _ w ⟨rfl, hk⟩
     have hp := hp.comp hk
     refine GL_rd (v := .bool _) (wn_none rfl) rfl (rd_pickT rfl rfl rfl) ?_
     refine GL_nil ?_
     refine GW_cond rfl (fun hb3 => ?_) (fun hb3 => ?_)
     ·(try simp only [decide_eq_true_eq, decide_eq_false_iff_not, Bool.not_eq_true', Bool.not_eq_false', Bool.not_eq_eq_eq_not, Bool.not_true, Bool.not_false, Int.not_lt, Int.not_le] at hb3)
      have hta := hb3
      refine GW_region ?_
      refine GL_rd (v := .int _ _) (wn_none rfl) rfl (rd_move rfl rfl) ?_
      refine GL_rd (v := .int _ _) (wn_none rfl) rfl (rd_assign rfl rfl) ?_
      refine GL_nil ?_
      refine GW_region ?_
      refine GL_rd (wn_none rfl) rfl (rd_bin rfl rfl rfl (bo_add64 (by omega))) ?_
      refine GL_rd (v := .int _ _) (wn_none rfl) rfl (rd_move rfl rfl) ?_
      refine GL_nil ?_
      exact ihL1 (j + 1, 2 * i + 1 + j) _ _ (by simp only []; omega) ⟨_, slots5 rfl rfl rfl rfl rfl, hp, by omega, best_take hbest (by omega) (by omega) hta⟩
     ·(try simp only [decide_eq_true_eq, decide_eq_false_iff_not, Bool.not_eq_true', Bool.not_eq_false', Bool.not_eq_eq_eq_not, Bool.not_true, Bool.not_false, Int.not_lt, Int.not_le] at hb3)
      have hke : ¬ 2 * i + 1 + j < hh.length ∨ ltB (itAt hh (2 * i + 1 + j)) (itAt hh b) = false := .inr hb3
      refine GW_skip ?_
      refine GW_region ?_
      refine GL_rd (wn_none rfl) rfl (rd_bin rfl rfl rfl (bo_add64 (by omega))) ?_
      refine GL_rd (v := .int _ _) (wn_none rfl) rfl (rd_move rfl rfl) ?_
      refine GL_nil ?_
      exact ihL1 (j + 1, b) _ _ (by simp only []; omega) ⟨_, slots5 rfl rfl rfl rfl rfl, hp, by omega, best_keep hbest hke⟩
    ·intro hb2; (try simp only [decide_eq_true_eq, decide_eq_false_iff_not, Bool.not_eq_true', Bool.not_eq_false', Bool.not_eq_eq_eq_not, Bool.not_true, Bool.not_false, Int.not_lt, Int.not_le] at hb2)
     have hke : ¬ 2 * i + 1 + j < hh.length ∨ ltB (itAt hh (2 * i + 1 + j)) (itAt hh b) = false := .inl (by have := hb2; omega)
     refine GL_pass (nw_off rfl rfl rfl rfl rfl) rfl ?_
     refine GL_pass (nw_off rfl rfl rfl rfl rfl) rfl ?_
     refine GL_pass (nw_off rfl rfl rfl rfl rfl) rfl ?_
     refine GL_pass (nw_off rfl rfl rfl rfl rfl) rfl ?_
     refine GL_rd (v := .bool _) (wn_none rfl) rfl (rd_pickF rfl rfl rfl) ?_
     refine GL_nil ?_
     refine GW_false rfl ?_
     refine GW_skip ?_
     refine GW_region ?_
     refine GL_rd (wn_none rfl) rfl (rd_bin rfl rfl rfl (bo_add64 (by omega))) ?_
     refine GL_rd (v := .int _ _) (wn_none rfl) rfl (rd_move rfl rfl) ?_
     refine GL_nil ?_
     exact ihL1 (j + 1, b) _ _ (by simp only []; omega) ⟨_, slots5 rfl rfl rfl rfl rfl, hp, by omega, best_keep hbest hke⟩
   ·(try simp only [decide_eq_true_eq, decide_eq_false_iff_not, Bool.not_eq_true', Bool.not_eq_false', Bool.not_eq_eq_eq_not, Bool.not_true, Bool.not_false, Int.not_lt, Int.not_le] at hb)
    obtain rfl : j = 2 := by omega
    refine GW_exit ?_
    refine GW_seq ?_
    refine GW_seq ?_
    refine GW_region ?_
    refine GL_rd (v := .int _ _) (wn_none rfl) rfl (rd_move rfl rfl) ?_
    refine GL_rd (v := .int _ _) (wn_none rfl) rfl (rd_move rfl rfl) ?_
    refine GL_rd (wn_none rfl) rfl (rd_bin rfl rfl rfl bo_eql) ?_
    refine GL_nil ?_
    refine GW_cond rfl (fun hb4 => ?_) (fun hb4 => ?_)
    ·(try simp only [decide_eq_true_eq, decide_eq_false_iff_not, Bool.not_eq_true', Bool.not_eq_false', Bool.not_eq_eq_eq_not, Bool.not_true, Bool.not_false, Int.not_lt, Int.not_le] at hb4)
     obtain rfl : b = i := by omega
     have hheap := down_stop hdn hbest
     refine GW_ret ?_
     exact ⟨_, res0 Try.results97 , hh, rfl, hperm, hheap, hp⟩
    ·(try simp only [decide_eq_true_eq, decide_eq_false_iff_not, Bool.not_eq_true', Bool.not_eq_false', Bool.not_eq_eq_eq_not, Bool.not_true, Bool.not_false, Int.not_lt, Int.not_le] at hb4)
     have hne : ¬ b = i := by omega
     have him : i < hh.length := by rcases hbest.1 with e | ⟨_, _, _, _⟩ <;> omega
     have hbm : b < m := by omega
     have hst := down_step hdn him hbest hne
     have hst2 := hst.2
     obtain ⟨gR, cap, hq, hcap⟩ := row_addr (hp.get 1 rfl) (by omega)
     injection hq with h1 h2 h3
     subst h1 h3
     refine GW_skip ?_
     refine GW_seq ?_
     refine GW_drawnK 25 (.one 0 true (.one 1 true (.one 2 true (.one 3 true (.one 4 true (.one 5 true (.one 6 true (.one 7 true (.one 8 true (.one 9 true (.one 10 true (.one 11 true (.one 12 true (.one 13 true (.one 14 true (.one 15 true (.one 16 true (.one 17 true (.one 18 true (.one 19 true (.one 20 true (.one 21 true (.one 22 true (.one 23 true (.one 24 true (.one 25 false (.one 26 false (.one 27 false .nil)))))))))))))))))))))))))))) mixed (by kernel_rfl) hp (fun _ h => h) fun w hp => ?_
     have hpS := hp
     refine GO_rdT (v := .pointer (some ⟨_, _, none⟩)) rfl (wn_none rfl) rfl (fun w => (rd_move rfl rfl)) ?_
     refine GO_rdT rfl (wn_none rfl) rfl (fun w => (rd_nilCheck rfl rfl)) ?_
     refine GO_rdT rfl (wn_none rfl) rfl (fun w => (rd_field rfl rfl fa143_0 _ rfl)) ?_
     refine GO_rd (v := .slice _ _ _) rfl rfl (wn_none rfl) rfl hpS (fun w hp => (rd_load rfl rfl Try.underlying141 rfl ((cell_of_cells (hp.get 0 rfl) _).trans rfl))) ?_
     refine GO_rdT (v := .int _ _) rfl (wn_none rfl) rfl (fun w => (rd_move rfl rfl)) ?_
     refine GO_rdT (v := .pointer (some ⟨_, _, none⟩)) rfl (wn_none rfl) rfl (fun w => (rd_move rfl rfl)) ?_
     refine GO_rdT rfl (wn_none rfl) rfl (fun w => (rd_nilCheck rfl rfl)) ?_
     refine GO_rdT rfl (wn_none rfl) rfl (fun w => (rd_field rfl rfl fa143_0 _ rfl)) ?_
     refine GO_rd (v := .slice _ _ _) rfl rfl (wn_none rfl) rfl hpS (fun w hp => (rd_load rfl rfl Try.underlying141 rfl ((cell_of_cells (hp.get 0 rfl) _).trans rfl))) ?_
     refine GO_rdT (v := .int _ _) rfl (wn_none rfl) rfl (fun w => (rd_move rfl rfl)) ?_
     refine GO_rdT (v := .pointer (some ⟨_, _, none⟩)) rfl (wn_none rfl) rfl (fun w => (rd_move rfl rfl)) ?_
     refine GO_rdT rfl (wn_none rfl) rfl (fun w => (rd_nilCheck rfl rfl)) ?_
     refine GO_rdT rfl (wn_none rfl) rfl (fun w => (rd_field rfl rfl fa143_0 _ rfl)) ?_
     refine GO_rd (v := .slice _ _ _) rfl rfl (wn_none rfl) rfl hpS (fun w hp => (rd_load rfl rfl Try.underlying141 rfl ((cell_of_cells (hp.get 0 rfl) _).trans rfl))) ?_
     refine GO_rdT (v := .int _ _) rfl (wn_none rfl) rfl (fun w => (rd_move rfl rfl)) ?_
     refine GO_rdT rfl (wn_none rfl) rfl (fun w => (rd_indexS (j := b) rfl rfl rfl Try.underlying141 ts145 rfl hbm _ rfl)) ?_
     refine GO_rd rfl rfl (wn_none rfl) rfl hpS (fun w hp => (rd_loadN (L := itC (Value.int .i64) (itAt hh b)) rfl rfl Try.underlying145 rfl ts145 rfl (fun j u hj => (Sl.row (hp.get 1 rfl)).elem (itC_len _) b j (itC_lt hj) (itAt_some (by omega)) hj))) ?_
     refine GO_rdT (v := .pointer (some ⟨_, _, none⟩)) rfl (wn_none rfl) rfl (fun w => (rd_move rfl rfl)) ?_
     refine GO_rdT rfl (wn_none rfl) rfl (fun w => (rd_nilCheck rfl rfl)) ?_
     refine GO_rdT rfl (wn_none rfl) rfl (fun w => (rd_field rfl rfl fa143_0 _ rfl)) ?_
     refine GO_rd (v := .slice _ _ _) rfl rfl (wn_none rfl) rfl hpS (fun w hp => (rd_load rfl rfl Try.underlying141 rfl ((cell_of_cells (hp.get 0 rfl) _).trans rfl))) ?_
     refine GO_rdT (v := .int _ _) rfl (wn_none rfl) rfl (fun w => (rd_move rfl rfl)) ?_
     refine GO_rdT rfl (wn_none rfl) rfl (fun w => (rd_indexS (j := i) rfl rfl rfl Try.underlying141 ts145 rfl (by omega) _ rfl)) ?_
     refine GO_rd rfl rfl (wn_none rfl) rfl hpS (fun w hp => (rd_loadN (L := itC (Value.int .i64) (itAt hh i)) rfl rfl Try.underlying145 rfl ts145 rfl (fun j u hj => (Sl.row (hp.get 1 rfl)).elem (itC_len _) i j (itC_lt hj) (itAt_some (by omega)) hj))) ?_
     refine GO_rdT rfl (wn_none rfl) rfl (fun w => (rd_indexS (j := i) rfl rfl rfl Try.underlying141 ts145 rfl (by omega) _ rfl)) ?_
     refine GO_of_GL rfl ?_
     refine GL_storeR (i := 1) (wn_none rfl) rfl rfl rfl rfl ts145 rfl rfl (itC_one _) hp rfl rfl (by rw [flat_length (itC_len _)]; (try rw [List.length_set]); omega) (flat_set0 (itC_len _) hh i (itAt hh b) (by (try rw [List.length_set]); omega)) ?_
     intro w hp
     refine GL_nil ⟨fun h => absurd h (by decide), ?_⟩
     refine GO_of_GL rfl ?_
     refine GL_rd (wn_none rfl) rfl (rd_indexS (j := b) rfl rfl rfl Try.underlying141 ts145 rfl hbm _ rfl) (GL_nil ⟨fun h => absurd h (by decide), ?_⟩)
     refine GO_of_GL rfl ?_
     refine GL_storeR (i := 1) (wn_none rfl) rfl rfl rfl rfl ts145 rfl rfl (itC_one _) hp rfl rfl (by rw [flat_length (itC_len _)]; (try rw [List.length_set]); omega) (flat_set0 (itC_len _) _ b (itAt hh i) (by (try rw [List.length_set]); omega)) ?_
     intro w hp
     refine GL_nil ⟨fun h => absurd h (by decide), ?_⟩
     refine GO_nil ?_
     refine GW_region ?_
     refine GL_rd (v := .int _ _) (wn_none rfl) rfl (rd_move rfl rfl) ?_
     refine GL_rd (v := .int _ _) (wn_none rfl) rfl (rd_assign rfl rfl) ?_
     refine GL_nil ?_
     exact ihL0 (b, swapI hh i b) _ _ (by simp only []; omega) ⟨_, slots2 rfl rfl, hp, by omega, (swap_perm (by omega) (by omega)).trans hperm, hst.1⟩
  ·refine ⟨_, slots5 rfl rfl rfl rfl rfl, hp, Nat.zero_le _, best_first hh i⟩
 ·refine ⟨_, slots2 rfl rfl, hp, Nat.zero_le _, .refl _, hd0⟩

theorem agi_Take (gq : Nat) (sv : Value) (n m : Nat) (h : List (It Int)) (F0 : List Nat) (M : List (It Int)) (now : Int) (w0 : World) (hm : m ≤ 1000000) (hrep : Rep h M n) (hp0 : Hp w0 F0 w0 [cells gq 143 [sv, .int .i64 (n : Int)], .row 145 3 sv m (h.flatMap (itC (Value.int .i64)))]) : Does Try.prog 19 #[.pointer (some ⟨gq, 0, none⟩), .int .i64 now] w0 fun v w' => ∃ sv2 h2, v = .tuple #[(if dueB M now then (Value.int .i64) (headI M).wt else .int .i64 0), .bool (dueB M now)] ∧ Rep h2 (leftI M now) n ∧ Hp w0 F0 w' [cells gq 143 [sv2, .int .i64 (n : Int)], .row 145 3 sv2 h2.length (h2.flatMap (itC (Value.int .i64)))] := by
 obtain ⟨A, c, rfl⟩ := row_shape (hp0.get 1 rfl)
 have hlen := flat_len (itC_len _) (by decide) (row_len (hp0.get 1 rfl))
 have hmle := (Sl.row (hp0.get 1 rfl)).le
 refine does_of (l := [.pointer (some ⟨gq, 0, none⟩), .int .i64 now]) Try.func19 (by kernel_rfl) rfl Try.ntmps19 rfl rfl ?_
 have hp := hp0
 refine GW_seq ?_
 refine GW_region ?_
 refine GL_rd (v := .int _ _) (wn_none rfl) rfl (rd_assign rfl rfl) ?_
 refine GL_rd (v := .bool _) (wn_none rfl) rfl (rd_assign rfl rfl) ?_
 refine GL_nil ?_
 refine GW_seq ?_
 refine GW_region ?_
 refine GL_rd (v := .pointer (some ⟨_, _, none⟩)) (wn_none rfl) rfl (rd_move rfl rfl) ?_
 refine GL_call (wn_none rfl) rfl rfl (agi_Next gq _ _ _ h _ (hp.get 0 rfl) (Sl.row (hp.get 1 rfl))) rfl ?_
 rintro _ w ⟨rfl, hk⟩
 have hp := hp.comp hk
 refine GL_rd (v := .tuple _) (wn_none rfl) rfl (rd_move rfl rfl) ?_
 refine GL_rd (v := .int _ _) (wn_none rfl) rfl (rd_extract rfl rfl rfl) ?_
 refine GL_rd (v := _) (wn_none rfl) rfl (rd_extract rfl rfl rfl) ?_
 refine GL_rd (v := .bool _) (wn_none rfl) rfl (rd_extract rfl rfl rfl) ?_
 refine GL_rd (v := .int _ _) (wn_none rfl) rfl (rd_assign rfl rfl) ?_
 refine GL_rd (v := _) (wn_none rfl) rfl (rd_assign rfl rfl) ?_
 refine GL_rd (v := .bool _) (wn_none rfl) rfl (rd_assign rfl rfl) ?_
 refine GL_nil ?_
 refine GW_seq ?_
 refine GW_seq ?_
 refine GW_region ?_
 refine GL_rd (v := .bool _) (wn_none rfl) rfl (rd_move rfl rfl) ?_
 refine GL_rd (wn_none rfl) rfl (rd_not rfl rfl) ?_
 refine GL_rd (v := .bool _) (wn_none rfl) rfl (rd_move rfl rfl) ?_
 refine GL_split (t := 19) (b := _) rfl ?_ ?_
 ·intro hb; (try simp only [decide_eq_true_eq, decide_eq_false_iff_not, Bool.not_eq_true', Bool.not_eq_false', Bool.not_eq_eq_eq_not, Bool.not_true, Bool.not_false, Int.not_lt, Int.not_le] at hb)
  have hdue := hrep.no (now := now) (by have := hb; omega)
  refine GL_pass (nw_off rfl rfl rfl rfl rfl) rfl ?_
  refine GL_pass (nw_off rfl rfl rfl rfl rfl) rfl ?_
  refine GL_pass (nw_off rfl rfl rfl rfl rfl) rfl ?_
  refine GL_rd (v := .bool _) (wn_none rfl) rfl (rd_pickT rfl rfl rfl) ?_
  refine GL_nil ?_
  refine GW_true rfl ?_
  refine GW_seq ?_
  refine GW_region ?_
  refine GL_rd (v := .int _ _) (wn_none rfl) rfl (rd_assign rfl rfl) ?_
  refine GL_nil ?_
  refine GW_seq ?_
  refine GW_region ?_
  refine GL_rd (v := .int _ _) (wn_none rfl) rfl (rd_move rfl rfl) ?_
  refine GL_rd (v := .int _ _) (wn_none rfl) rfl (rd_assign rfl rfl) ?_
  refine GL_rd (v := .bool _) (wn_none rfl) rfl (rd_assign rfl rfl) ?_
  refine GL_nil ?_
  refine GW_ret ?_
  exact ⟨_, res2 Try.results19 (rv_tmp (v := .int _ _) rfl rfl) (rv_tmp (v := .bool _) rfl rfl), .slice A m c, h, by rw [hdue]; rfl, by rw [leftI, hdue]; exact hrep, by rw [hlen]; exact hp⟩
 ·intro hb; (try simp only [decide_eq_true_eq, decide_eq_false_iff_not, Bool.not_eq_true', Bool.not_eq_false', Bool.not_eq_eq_eq_not, Bool.not_true, Bool.not_false, Int.not_lt, Int.not_le] at hb)
  have hm0 : 0 < m := by have := hb; omega
  have hl0 := hrep.late (now := now) (by omega)
  refine GL_rd (v := .int _ _) (wn_on rfl rfl rfl rfl) rfl (rd_move rfl rfl) ?_
  refine GL_rd (v := .int _ _) (wn_on rfl rfl rfl rfl) rfl (rd_move rfl rfl) ?_
  refine GL_rd (wn_on rfl rfl rfl rfl) rfl (rd_bin rfl rfl rfl bo_gtr) ?_
  refine GL_rd (v := .bool _) (wn_none rfl) rfl (rd_pickF rfl rfl rfl) ?_
  refine GL_nil ?_
  refine GW_cond rfl (fun hb2 => ?_) (fun hb2 => ?_)
  ·(try simp only [decide_eq_true_eq, decide_eq_false_iff_not, Bool.not_eq_true', Bool.not_eq_false', Bool.not_eq_eq_eq_not, Bool.not_true, Bool.not_false, Int.not_lt, Int.not_le] at hb2)
   have hdue : dueB M now = false := by rw [hl0, decide_eq_false]; have := hb2; rw [if_neg (by omega)] at this; omega
   refine GW_seq ?_
   refine GW_region ?_
   refine GL_rd (v := .int _ _) (wn_none rfl) rfl (rd_assign rfl rfl) ?_
   refine GL_nil ?_
   refine GW_seq ?_
   refine GW_region ?_
   refine GL_rd (v := .int _ _) (wn_none rfl) rfl (rd_move rfl rfl) ?_
   refine GL_rd (v := .int _ _) (wn_none rfl) rfl (rd_assign rfl rfl) ?_
   refine GL_rd (v := .bool _) (wn_none rfl) rfl (rd_assign rfl rfl) ?_
   refine GL_nil ?_
   refine GW_ret ?_
   exact ⟨_, res2 Try.results19 (rv_tmp (v := .int _ _) rfl rfl) (rv_tmp (v := .bool _) rfl rfl), .slice A m c, h, by rw [hdue]; rfl, by rw [leftI, hdue]; exact hrep, by rw [hlen]; exact hp⟩
  ·(try simp only [decide_eq_true_eq, decide_eq_false_iff_not, Bool.not_eq_true', Bool.not_eq_false', Bool.not_eq_eq_eq_not, Bool.not_true, Bool.not_false, Int.not_lt, Int.not_le] at hb2)
   have hdue : dueB M now = true := by rw [hl0, decide_eq_true]; have := hb2; rw [if_neg (by omega)] at this; omega
   have hhd := hrep.head0 (by omega)
   obtain ⟨gR, cap, hq, hcap⟩ := row_addr (hp.get 1 rfl) (by omega)
   injection hq with h1 h2 h3
   subst h1 h3
   refine GW_skip ?_
   refine GW_seq ?_
   refine GW_region ?_
   refine GL_rd (v := .pointer (some ⟨_, _, none⟩)) (wn_none rfl) rfl (rd_move rfl rfl) ?_
   refine GL_rd (wn_none rfl) rfl (rd_nilCheck rfl rfl) ?_
   refine GL_rd (wn_none rfl) rfl (rd_field rfl rfl fa143_0 _ rfl) ?_
   refine GL_rd (v := .slice _ _ _) (wn_none rfl) rfl (rd_load rfl rfl Try.underlying141 rfl ((cell_of_cells (hp.get 0 rfl) _).trans rfl)) ?_
   refine GL_rd (wn_none rfl) rfl (rd_len rfl rfl Try.underlying141) ?_
   refine GL_rd (wn_none rfl) rfl (rd_bin rfl rfl rfl (bo_sub64 (by omega))) ?_
   refine GL_rd (v := .int _ _) (wn_none rfl) rfl (rd_assign rfl rfl) ?_
   refine GL_nil ?_
   refine GW_seq ?_
   refine GW_drawnK 12 (.one 0 true (.one 1 true (.one 2 true (.one 3 true (.one 4 true (.one 5 true (.one 6 true (.one 7 true (.one 8 true (.one 9 true (.one 10 true (.one 11 true (.one 12 false .nil))))))))))))) mixed (by kernel_rfl) hp (fun _ h => h) fun w hp => ?_
   have hpS := hp
   refine GO_rdT (v := .pointer (some ⟨_, _, none⟩)) rfl (wn_none rfl) rfl (fun w => (rd_move rfl rfl)) ?_
   refine GO_rdT rfl (wn_none rfl) rfl (fun w => (rd_nilCheck rfl rfl)) ?_
   refine GO_rdT rfl (wn_none rfl) rfl (fun w => (rd_field rfl rfl fa143_0 _ rfl)) ?_
   refine GO_rd (v := .slice _ _ _) rfl rfl (wn_none rfl) rfl hpS (fun w hp => (rd_load rfl rfl Try.underlying141 rfl ((cell_of_cells (hp.get 0 rfl) _).trans rfl))) ?_
   refine GO_rdT (v := .pointer (some ⟨_, _, none⟩)) rfl (wn_none rfl) rfl (fun w => (rd_move rfl rfl)) ?_
   refine GO_rdT rfl (wn_none rfl) rfl (fun w => (rd_nilCheck rfl rfl)) ?_
   refine GO_rdT rfl (wn_none rfl) rfl (fun w => (rd_field rfl rfl fa143_0 _ rfl)) ?_
   refine GO_rd (v := .slice _ _ _) rfl rfl (wn_none rfl) rfl hpS (fun w hp => (rd_load rfl rfl Try.underlying141 rfl ((cell_of_cells (hp.get 0 rfl) _).trans rfl))) ?_
   refine GO_rdT (v := .int _ _) rfl (wn_none rfl) rfl (fun w => (rd_move rfl rfl)) ?_
   refine GO_rdT rfl (wn_none rfl) rfl (fun w => (rd_indexS (j := (m - 1)) rfl rfl rfl Try.underlying141 ts145 (by omega) (by omega) _ rfl)) ?_
   refine GO_rd rfl rfl (wn_none rfl) rfl hpS (fun w hp => (rd_loadN (L := itC (Value.int .i64) (itAt h (m - 1))) rfl rfl Try.underlying145 rfl ts145 rfl (fun j u hj => (Sl.row (hp.get 1 rfl)).elem (itC_len _) (m - 1) j (itC_lt hj) (itAt_some (by omega)) hj))) ?_
   refine GO_rdT rfl (wn_none rfl) rfl (fun w => (rd_indexS (j := 0) rfl rfl rfl Try.underlying141 ts145 rfl (by omega) _ rfl)) ?_
   refine GO_of_GL rfl ?_
   refine GL_storeR (i := 1) (wn_none rfl) rfl rfl rfl rfl ts145 rfl rfl (itC_one _) hp rfl rfl (by rw [flat_length (itC_len _)]; (try rw [List.length_set]); omega) (flat_set0 (itC_len _) h 0 (itAt h (m - 1)) (by (try rw [List.length_set]); omega)) ?_
   intro w hp
   refine GL_nil ⟨fun h => absurd h (by decide), ?_⟩
   refine GO_nil ?_
   refine GW_seq ?_
   refine GW_region ?_
   refine GL_rd (v := .pointer (some ⟨_, _, none⟩)) (wn_none rfl) rfl (rd_move rfl rfl) ?_
   refine GL_rd (v := .pointer (some ⟨_, _, none⟩)) (wn_none rfl) rfl (rd_move rfl rfl) ?_
   refine GL_rd (wn_none rfl) rfl (rd_nilCheck rfl rfl) ?_
   refine GL_rd (wn_none rfl) rfl (rd_field rfl rfl fa143_0 _ rfl) ?_
   refine GL_rd (v := .slice _ _ _) (wn_none rfl) rfl (rd_load rfl rfl Try.underlying141 rfl ((cell_of_cells (hp.get 0 rfl) _).trans rfl)) ?_
   refine GL_rd (v := .int _ _) (wn_none rfl) rfl (rd_move rfl rfl) ?_
   refine GL_rd (wn_none rfl) rfl (rd_sliceE (lo := 0) (hi := (m - 1)) rfl rfl Try.underlying141 ts145 at_none (at_some rfl (by omega)) (by omega) (by omega) (addr_zero _ _ _) (Nat.sub_zero _) (Nat.sub_zero _)) ?_
   refine GL_rd (wn_none rfl) rfl (rd_nilCheck rfl rfl) ?_
   refine GL_rd (wn_none rfl) rfl (rd_field rfl rfl fa143_0 _ rfl) ?_
   refine GL_store (i := 0) (wn_none rfl) rfl rfl rfl rfl ts141 rfl rfl (one1 rfl) hp rfl (by first | exact Nat.le_of_ble_eq_true rfl | simp [bys_length, *]) rfl ?_
   intro w hp
   refine GL_nil ?_
   refine GW_seq ?_
   refine GW_region ?_
   have hp := ((hp.front 0 rfl).front 1 rfl)
   have hp := hp.swap (r' := .row 145 3 (.slice (some ⟨gR, 0, none⟩) (m - 1) c) (m - 1) ((popI h).flatMap (itC (Value.int .i64)))) rfl (by have q := row_less (hp.get 0 rfl) (show m - 1 ≤ m by omega) (by simp); rw [flat_take (itC_len _), show (h.set 0 (itAt h (m - 1))).take (m - 1) = popI h by rw [popI, hlen]] at q; exact q)
   refine GL_rd (v := .pointer (some ⟨_, _, none⟩)) (wn_none rfl) rfl (rd_move rfl rfl) ?_
   have hp := ((hp.front 0 rfl).front 1 rfl)
   refine GL_call (wn_none rfl) rfl rfl (agi_sink gq _ n (m - 1) (popI h) _ _ (by omega) (pop_down hrep.heap) (hp.ownsT 2)) rfl ?_
   rintro _ w ⟨h2, rfl, hperm2, hheap2, hk⟩
   have hp := hp.turnsT 2 hk
   refine GL_nil ?_
   refine GW_seq ?_
   refine GW_region ?_
   refine GL_rd (v := _) (wn_none rfl) rfl (rd_move rfl rfl) ?_
   refine GL_rd (v := _) (wn_none rfl) rfl (rd_assign rfl rfl) ?_
   refine GL_rd (v := .bool _) (wn_none rfl) rfl (rd_assign rfl rfl) ?_
   refine GL_nil ?_
   refine GW_ret ?_
   have hl2 : h2.length = m - 1 := by rw [hperm2.length_eq, popI_length, hlen]
   have ev : (if m = 0 then .int .i64 0 else (Value.int .i64) (itAt h 0).wt) = (Value.int .i64) (headI M).wt := by rw [if_neg (show ¬ m = 0 by omega), hhd]
   exact ⟨_, res2 Try.results19 (rv_tmp (v := _) rfl rfl) (rv_tmp (v := .bool _) rfl rfl), _, h2, by rw [hdue, if_pos rfl, ← ev]; rfl, hrep.take hdue hperm2 hheap2, by rw [hl2]; exact hp⟩

theorem agi_Due (gq : Nat) (sv : Value) (n m : Nat) (h : List (It Int)) (F0 : List Nat) (M : List (It Int)) (now : Int) (w0 : World) (hm : m ≤ 1000000) (hrep : Rep h M n) (hp0 : Hp w0 F0 w0 [cells gq 143 [sv, .int .i64 (n : Int)], .row 145 3 sv m (h.flatMap (itC (Value.int .i64)))]) : Does Try.prog 94 #[.pointer (some ⟨gq, 0, none⟩), .int .i64 now] w0 fun v w' => ∃ sv2 h2, Rep h2 (M.dropWhile (fun y => decide (y.at_ ≤ now))) n ∧ Hp w0 F0 w' [.row 3 1 v (M.takeWhile (fun y => decide (y.at_ ≤ now))).length ((M.takeWhile (fun y => decide (y.at_ ≤ now))).map fun x => (Value.int .i64) x.wt), cells gq 143 [sv2, .int .i64 (n : Int)], .row 145 3 sv2 h2.length (h2.flatMap (itC (Value.int .i64)))] := by
 obtain ⟨A, c, rfl⟩ := row_shape (hp0.get 1 rfl)
 have hlen := flat_len (itC_len _) (by decide) (row_len (hp0.get 1 rfl))
 have hmle := (Sl.row (hp0.get 1 rfl)).le
 refine does_of (l := [.pointer (some ⟨gq, 0, none⟩), .int .i64 now]) Try.func94 (by kernel_rfl) rfl Try.ntmps94 rfl rfl ?_
 have hp := hp0
 refine GW_seq ?_
 refine GW_region ?_
 refine GL_rd (v := .slice _ _ _) (wn_none rfl) rfl (rd_assign rfl rfl) ?_
 refine GL_nil ?_
 refine GW_seq ?_
 refine GW_region ?_
 refine GL_rd (v := .slice _ _ _) (wn_none rfl) rfl (rd_assign rfl rfl) ?_
 refine GL_nil ?_
 refine GW_block ?_
 refine GW_loop ?_
 refine Lp_ind (α := List (It Int) × List (It Int) × List (It Int) × Value × Value) (fun a_0 f_0 w' => match a_0 with | (D, N, hh, sv2, v) => ∃ fz, f_0 = (upd (upd (upd fz 0 (.pointer (some ⟨gq, 0, none⟩))) 1 (.int .i64 now)) 5 (v)) ∧ Hp w0 F0 w' [.row 3 1 v D.length (D.map fun x => (Value.int .i64) x.wt), cells gq 143 [sv2, .int .i64 (n : Int)], .row 145 3 sv2 hh.length (hh.flatMap (itC (Value.int .i64)))] ∧ (D ++ N = M) ∧ (∀ x ∈ D, x.at_ ≤ now) ∧ (Rep hh N n)) (fun a_0 => match a_0 with | (D, N, hh, sv2, v) => N.length) ?_ ([], M, h, .slice A m c, .slice none 0 0) _ _ ?_
 ·rintro ⟨D, N, hh, sv2, v⟩ f wz ⟨fz, rfl, hp, hDN, hD, hrp⟩ ihL0
  have hNl := congrArg List.length hDN
  rw [List.length_append] at hNl
  have hML := hrep.len
  have hhN := hrp.len
  refine Lp_round ?_
  refine GW_block ?_
  refine GW_seq ?_
  refine GW_region ?_
  refine GL_rd (v := .pointer (some ⟨_, _, none⟩)) (wn_none rfl) rfl (rd_move rfl rfl) ?_
  refine GL_rd (v := .int _ _) (wn_none rfl) rfl (rd_move rfl rfl) ?_
  have hp := ((hp.front 2 rfl).front 2 rfl)
  refine GL_call (wn_none rfl) rfl rfl (agi_Take gq _ n _ hh _ N now _ (by omega) hrp (hp.ownsT 2)) rfl ?_
  rintro _ w ⟨sv3, h3, rfl, hrp3, hk⟩
  have hp := hp.turnsT 2 hk
  refine GL_rd (v := .tuple _) (wn_none rfl) rfl (rd_move rfl rfl) ?_
  refine GL_rd (v := _) (wn_none rfl) rfl (rd_extract rfl rfl rfl) ?_
  refine GL_rd (v := .bool _) (wn_none rfl) rfl (rd_extract rfl rfl rfl) ?_
  refine GL_rd (v := _) (wn_none rfl) rfl (rd_assign rfl rfl) ?_
  refine GL_rd (v := .bool _) (wn_none rfl) rfl (rd_assign rfl rfl) ?_
  refine GL_nil ?_
  refine GW_seq ?_
  refine GW_seq ?_
  refine GW_region ?_
  refine GL_rd (v := .bool _) (wn_none rfl) rfl (rd_move rfl rfl) ?_
  refine GL_rd (wn_none rfl) rfl (rd_not rfl rfl) ?_
  refine GL_nil ?_
  refine GW_cond rfl (fun hb => ?_) (fun hb => ?_)
  ·(try simp only [decide_eq_true_eq, decide_eq_false_iff_not, Bool.not_eq_true', Bool.not_eq_false', Bool.not_eq_eq_eq_not, Bool.not_true, Bool.not_false, Int.not_lt, Int.not_le] at hb)
   have hnd : dueB N now = false := hb
   have hsp := due_split hDN hD hnd
   have hN3 : leftI N now = N := by rw [leftI, hnd]; rfl
   rw [hN3] at hrp3
   refine GW_seq ?_
   refine GW_region ?_
   refine GL_rd (v := v) (wn_none rfl) rfl (rd_move rfl rfl) ?_
   refine GL_rd (v := v) (wn_none rfl) rfl (rd_assign rfl rfl) ?_
   refine GL_nil ?_
   refine GW_ret ?_
   rw [← hsp.1, ← hsp.2]
   refine ⟨_, res1 Try.results94 (rv_tmp (v := v) rfl rfl), sv3, h3, hrp3, ?_⟩
   have hp := ((((hp.front 1 rfl).front 1 rfl).front 2 rfl).take 3)
   exact hp
  ·(try simp only [decide_eq_true_eq, decide_eq_false_iff_not, Bool.not_eq_true', Bool.not_eq_false', Bool.not_eq_eq_eq_not, Bool.not_true, Bool.not_false, Int.not_lt, Int.not_le] at hb)
   have hyd : dueB N now = true := hb
   have hdc := due_cons hyd
   rw [if_pos hyd]
   refine GW_skip ?_
   refine GW_region ?_
   refine GL_rd (v := v) (wn_none rfl) rfl (rd_move rfl rfl) ?_
   refine GL_rd (v := _) (wn_none rfl) rfl (rd_move rfl rfl) ?_
   refine GL_lit (L := [(Value.int .i64) (headI N).wt]) (wn_none rfl) rfl rfl Try.underlying57 ts3 tz3 rfl (by kernel_rfl) rfl rfl hp ?_
   intro g w hp
   refine GL_append (i := 3) (wn_none rfl) rfl rfl rfl rfl Try.underlying57 ti3 rfl (by decide) hp rfl (Sl.row (hp.get 0 rfl)) (one1 (OneF.one (f := (Value.int .i64)) _)) (by omega) (by omega) ?_
   intro v w hp
   refine GL_rd (v := v) (wn_none rfl) rfl (rd_assign rfl rfl) ?_
   refine GL_nil ?_
   have hp := ((((hp.front 2 rfl).front 2 rfl).front 3 rfl).take 3)
   have hp : Hp w0 F0 w [.row 3 1 v (D ++ [headI N]).length ((D ++ [headI N]).map fun x => (Value.int .i64) x.wt), cells gq 143 [sv3, .int .i64 (n : Int)], .row 145 3 sv3 h3.length (h3.flatMap (itC (Value.int .i64)))] := by rw [List.length_append, List.map_append]; exact hp
   exact ihL0 (D ++ [headI N], leftI N now, h3, sv3, v) _ _ (by have := congrArg List.length hdc.1; simp only [List.length_cons] at this ⊢; omega) ⟨_, slots3 rfl rfl rfl, hp, by rw [List.append_assoc, List.singleton_append, ← hdc.1]; exact hDN, fun x hx => by rcases List.mem_append.1 hx with hx | hx; exact hD x hx; rw [List.mem_singleton] at hx; subst hx; exact hdc.2, hrp3⟩
 ·have hp := hp.nilRow 3 1
  have hp : Hp w0 F0 w0 [.row 3 1 (.slice none 0 0) ([] : List (It Int)).length (([] : List (It Int)).map fun x => (Value.int .i64) x.wt), cells gq 143 [(.slice A m c), .int .i64 (n : Int)], .row 145 3 (.slice A m c) h.length (h.flatMap (itC (Value.int .i64)))] := by rw [hlen]; exact hp
  refine ⟨_, slots3 rfl rfl rfl, hp, rfl, by simp, hrep⟩

theorem ags_New (w0 : World) : Does Try.prog 23 #[] w0 fun v w' => ∃ g, v = .pointer (some ⟨g, 0, none⟩) ∧ Hp w0 [] w' [cells g 149 [.slice none 0 0, .int .i64 0]] := by
 refine does_of (l := []) Try.func23 (by kernel_rfl) rfl Try.ntmps23 rfl rfl ?_
 have hp := Hp.refl w0 []
 refine GW_seq ?_
 refine GW_region ?_
 refine GL_rd (v := _) (wn_none rfl) rfl (rd_assign rfl rfl) ?_
 refine GL_nil ?_
 refine GW_seq ?_
 refine GW_region ?_
 refine GL_rd (wn_none rfl) rfl (rd_buildS (L := [.slice none 0 0, .int .i64 0]) rfl tz149 pl149 (by kernel_rfl)) ?_
 refine GL_box (wn_none rfl) rfl rfl rfl rfl hp ?_
 intro g w hp
 refine GL_rd (v := .pointer (some ⟨_, _, none⟩)) (wn_none rfl) rfl (rd_assign rfl rfl) ?_
 refine GL_nil ?_
 refine GW_ret ?_
 exact ⟨_, res1 Try.results23 (rv_tmp (v := .pointer (some ⟨_, _, none⟩)) rfl rfl), g, rfl, hp⟩

theorem ags_Len (gq : Nat) (sv nv : Value) (m : Nat) (h : List (It ByteArray)) (w0 : World) (hA : (cells gq 149 [sv, nv]).at_ w0) (hR : Sl w0 sv 3 m (h.flatMap (itC Value.string))) : Does Try.prog 27 #[.pointer (some ⟨gq, 0, none⟩)] w0 fun v w' => v = .int .i64 (m : Int) ∧ Hp w0 [] w' [] := by
 obtain ⟨A, c, rfl⟩ := sl_shape hR
 have hlen := flat_len (itC_len _) (by decide) hR.len
 have hmle := hR.le
 refine does_of (l := [.pointer (some ⟨gq, 0, none⟩)]) Try.func27 (by kernel_rfl) rfl Try.ntmps27 rfl rfl ?_
 have hp := Hp.refl w0 []
 refine GW_seq ?_
 refine GW_region ?_
 refine GL_rd (v := .int _ _) (wn_none rfl) rfl (rd_assign rfl rfl) ?_
 refine GL_nil ?_
 refine GW_seq ?_
 refine GW_region ?_
 refine GL_rd (v := .pointer (some ⟨_, _, none⟩)) (wn_none rfl) rfl (rd_move rfl rfl) ?_
 refine GL_rd (wn_none rfl) rfl (rd_nilCheck rfl rfl) ?_
 refine GL_rd (wn_none rfl) rfl (rd_field rfl rfl fa149_0 _ rfl) ?_
 refine GL_rd (v := .slice _ _ _) (wn_none rfl) rfl (rd_load rfl rfl Try.underlying147 rfl ((cell_of_cells (cells.keep hA hp.mod) _).trans rfl)) ?_
 refine GL_rd (wn_none rfl) rfl (rd_len rfl rfl Try.underlying147) ?_
 refine GL_rd (v := .int _ _) (wn_none rfl) rfl (rd_assign rfl rfl) ?_
 refine GL_nil ?_
 refine GW_ret ?_
 exact ⟨_, res1 Try.results27 (rv_tmp (v := .int _ _) rfl rfl), rfl, hp.mods⟩

theorem ags_Next (gq : Nat) (sv nv : Value) (m : Nat) (h : List (It ByteArray)) (w0 : World) (hA : (cells gq 149 [sv, nv]).at_ w0) (hR : Sl w0 sv 3 m (h.flatMap (itC Value.string))) : Does Try.prog 26 #[.pointer (some ⟨gq, 0, none⟩)] w0 fun v w' => v = .tuple #[.int .i64 (if m = 0 then 0 else (itAt h 0).at_), (if m = 0 then .string ⟨#[]⟩ else Value.string (itAt h 0).wt), .bool (decide (0 < m))] ∧ Hp w0 [] w' [] := by
 obtain ⟨A, c, rfl⟩ := sl_shape hR
 have hlen := flat_len (itC_len _) (by decide) hR.len
 have hmle := hR.le
 refine does_of (l := [.pointer (some ⟨gq, 0, none⟩)]) Try.func26 (by kernel_rfl) rfl Try.ntmps26 rfl rfl ?_
 have hp := Hp.refl w0 []
 refine GW_seq ?_
 refine GW_region ?_
 refine GL_rd (v := .int _ _) (wn_none rfl) rfl (rd_assign rfl rfl) ?_
 refine GL_rd (v := .string _) (wn_none rfl) rfl (rd_assign rfl rfl) ?_
 refine GL_rd (v := .bool _) (wn_none rfl) rfl (rd_assign rfl rfl) ?_
 refine GL_nil ?_
 refine GW_seq ?_
 refine GW_seq ?_
 refine GW_region ?_
 refine GL_rd (v := .pointer (some ⟨_, _, none⟩)) (wn_none rfl) rfl (rd_move rfl rfl) ?_
 refine GL_rd (wn_none rfl) rfl (rd_nilCheck rfl rfl) ?_
 refine GL_rd (wn_none rfl) rfl (rd_field rfl rfl fa149_0 _ rfl) ?_
 refine GL_rd (v := .slice _ _ _) (wn_none rfl) rfl (rd_load rfl rfl Try.underlying147 rfl ((cell_of_cells (cells.keep hA hp.mod) _).trans rfl)) ?_
 refine GL_rd (wn_none rfl) rfl (rd_len rfl rfl Try.underlying147) ?_
 refine GL_rd (wn_none rfl) rfl (rd_bin rfl rfl rfl bo_eql) ?_
 refine GL_nil ?_
 refine GW_cond rfl (fun hb => ?_) (fun hb => ?_)
 ·(try simp only [decide_eq_true_eq, decide_eq_false_iff_not, Bool.not_eq_true', Bool.not_eq_false', Bool.not_eq_eq_eq_not, Bool.not_true, Bool.not_false, Int.not_lt, Int.not_le] at hb)
  refine GW_seq ?_
  refine GW_region ?_
  refine GL_rd (v := .string _) (wn_none rfl) rfl (rd_assign rfl rfl) ?_
  refine GL_nil ?_
  refine GW_seq ?_
  refine GW_region ?_
  refine GL_rd (v := .string _) (wn_none rfl) rfl (rd_move rfl rfl) ?_
  refine GL_rd (v := .int _ _) (wn_none rfl) rfl (rd_assign rfl rfl) ?_
  refine GL_rd (v := .string _) (wn_none rfl) rfl (rd_assign rfl rfl) ?_
  refine GL_rd (v := .bool _) (wn_none rfl) rfl (rd_assign rfl rfl) ?_
  refine GL_nil ?_
  refine GW_ret ?_
  exact ⟨_, res3 Try.results26 (rv_tmp (v := .int _ _) rfl rfl) (rv_tmp (v := .string _) rfl rfl) (rv_tmp (v := .bool _) rfl rfl), by rw [if_pos (by omega), if_pos (by omega), decide_eq_false (show ¬ 0 < m by omega)], hp.mods⟩
 ·(try simp only [decide_eq_true_eq, decide_eq_false_iff_not, Bool.not_eq_true', Bool.not_eq_false', Bool.not_eq_eq_eq_not, Bool.not_true, Bool.not_false, Int.not_lt, Int.not_le] at hb)
  obtain ⟨gB, bB, rfl⟩ := hR.addr (by rw [flat_length (itC_len _)]; omega)
  refine GW_skip ?_
  refine GW_seq ?_
  refine GW_drawnK 17 (.one 0 true (.one 1 true (.one 2 true (.one 3 true (.one 4 true (.one 5 true (.one 6 true (.one 7 true (.one 8 true (.one 9 true (.one 10 true (.one 11 true (.one 12 true (.one 13 true (.one 14 true (.one 15 true (.one 16 true .nil))))))))))))))))) mixed (by kernel_rfl) hp (fun _ h => h) fun w hp => ?_
  have hpS := hp
  refine GO_rdT (v := .pointer (some ⟨_, _, none⟩)) rfl (wn_none rfl) rfl (fun w => (rd_move rfl rfl)) ?_
  refine GO_rdT rfl (wn_none rfl) rfl (fun w => (rd_nilCheck rfl rfl)) ?_
  refine GO_rdT rfl (wn_none rfl) rfl (fun w => (rd_field rfl rfl fa149_0 _ rfl)) ?_
  refine GO_rd (v := .slice _ _ _) rfl rfl (wn_none rfl) rfl hpS (fun w hp => (rd_load rfl rfl Try.underlying147 rfl ((cell_of_cells (cells.keep hA hp.mod) _).trans rfl))) ?_
  refine GO_rdT rfl (wn_none rfl) rfl (fun w => (rd_indexS (j := 0) rfl rfl rfl Try.underlying147 ts151 rfl (by omega) _ rfl)) ?_
  refine GO_rdT rfl (wn_none rfl) rfl (fun w => (rd_field rfl rfl fa151_0 _ rfl)) ?_
  refine GO_rd rfl rfl (wn_none rfl) rfl hpS (fun w hp => (rd_load rfl rfl Try.underlying3 rfl ((hR.keep hp.mod).get _ _ (it_cell (i := 0) (j := 0) (by omega) rfl (by decide))))) ?_
  refine GO_rdT (v := .pointer (some ⟨_, _, none⟩)) rfl (wn_none rfl) rfl (fun w => (rd_move rfl rfl)) ?_
  refine GO_rdT rfl (wn_none rfl) rfl (fun w => (rd_nilCheck rfl rfl)) ?_
  refine GO_rdT rfl (wn_none rfl) rfl (fun w => (rd_field rfl rfl fa149_0 _ rfl)) ?_
  refine GO_rd (v := .slice _ _ _) rfl rfl (wn_none rfl) rfl hpS (fun w hp => (rd_load rfl rfl Try.underlying147 rfl ((cell_of_cells (cells.keep hA hp.mod) _).trans rfl))) ?_
  refine GO_rdT rfl (wn_none rfl) rfl (fun w => (rd_indexS (j := 0) rfl rfl rfl Try.underlying147 ts151 rfl (by omega) _ rfl)) ?_
  refine GO_rdT rfl (wn_none rfl) rfl (fun w => (rd_field rfl rfl fa151_2 _ rfl)) ?_
  refine GO_rd rfl rfl (wn_none rfl) rfl hpS (fun w hp => (rd_load rfl rfl Try.underlying9 rfl ((hR.keep hp.mod).get _ _ (it_cell (i := 0) (j := 2) (by omega) rfl (by decide))))) ?_
  refine GO_rdT (v := .int _ _) rfl (wn_none rfl) rfl (fun w => (rd_assign rfl rfl)) ?_
  refine GO_rdT (v := .string _) rfl (wn_none rfl) rfl (fun w => (rd_assign rfl rfl)) ?_
  refine GO_rdT (v := .bool _) rfl (wn_none rfl) rfl (fun w => (rd_assign rfl rfl)) ?_
  refine GO_nil ?_
  refine GW_ret ?_
  exact ⟨_, res3 Try.results26 (rv_tmp (v := .int _ _) rfl rfl) (rv_tmp (v := .string _) rfl rfl) (rv_tmp (v := .bool _) rfl rfl), by rw [if_neg (by omega), if_neg (by omega), decide_eq_true (show 0 < m by omega)], hp.mods⟩

theorem ags_ahead (gq : Nat) (sv nv : Value) (m : Nat) (h : List (It ByteArray)) (i k : Nat) (w0 : World) (hA : (cells gq 149 [sv, nv]).at_ w0) (hR : Sl w0 sv 3 m (h.flatMap (itC Value.string))) (hi : i < m) (hk : k < m) : Does Try.prog 98 #[.pointer (some ⟨gq, 0, none⟩), .int .i64 (i : Int), .int .i64 (k : Int)] w0 fun v w' => v = .bool (ltB (itAt h i) (itAt h k)) ∧ Hp w0 [] w' [] := by
 obtain ⟨A, c, rfl⟩ := sl_shape hR
 have hlen := flat_len (itC_len _) (by decide) hR.len
 have hmle := hR.le
 obtain ⟨gB, bB, rfl⟩ := hR.addr (by rw [flat_length (itC_len _)]; omega)
 refine does_of (l := [.pointer (some ⟨gq, 0, none⟩), .int .i64 (i : Int), .int .i64 (k : Int)]) Try.func98 (by kernel_rfl) rfl Try.ntmps98 rfl rfl ?_
 have hp := Hp.refl w0 []
 refine GW_seq ?_
 refine GW_region ?_
 refine GL_rd (v := .bool _) (wn_none rfl) rfl (rd_assign rfl rfl) ?_
 refine GL_nil ?_
 refine GW_cut (fun f_0 w' => ∃ (gx : Nat) (gy : Nat) (fz : _), f_0 = (upd (upd fz 7 (.pointer (some ⟨gx, 0, none⟩))) 8 (.pointer (some ⟨gy, 0, none⟩))) ∧ Hp w0 [] w' [cells gx 151 (itC Value.string (itAt h i)), cells gy 151 (itC Value.string (itAt h k))]) ?_ ?_
 ·skip
  refine GW_drawnK 18 (.one 0 true (.one 1 true (.one 2 true (.one 3 true (.one 4 true (.one 5 true (.one 6 true (.one 7 true (.one 8 true (.one 9 true (.one 10 true (.one 11 true (.one 12 true (.one 13 true (.two 14 15 (.one 15 false (.one 16 false (.one 17 false .nil))) (.one 14 false (.one 16 false (.one 17 false .nil)))))))))))))))))) mixed (by kernel_rfl) hp (fun _ h => h) fun w hp => ?_
  have hpS := hp
  refine GO_rdT (v := .pointer (some ⟨_, _, none⟩)) rfl (wn_none rfl) rfl (fun w => (rd_move rfl rfl)) ?_
  refine GO_rdT rfl (wn_none rfl) rfl (fun w => (rd_nilCheck rfl rfl)) ?_
  refine GO_rdT rfl (wn_none rfl) rfl (fun w => (rd_field rfl rfl fa149_0 _ rfl)) ?_
  refine GO_rd (v := .slice _ _ _) rfl rfl (wn_none rfl) rfl hpS (fun w hp => (rd_load rfl rfl Try.underlying147 rfl ((cell_of_cells (cells.keep hA hp.mod) _).trans rfl))) ?_
  refine GO_rdT (v := .int _ _) rfl (wn_none rfl) rfl (fun w => (rd_move rfl rfl)) ?_
  refine GO_rdT rfl (wn_none rfl) rfl (fun w => (rd_indexS (j := i) rfl rfl rfl Try.underlying147 ts151 rfl hi _ rfl)) ?_
  refine GO_rd rfl rfl (wn_none rfl) rfl hpS (fun w hp => (rd_loadN (L := itC Value.string (itAt h i)) rfl rfl Try.underlying151 rfl ts151 rfl (fun j u hj => (hR.keep hp.mod).elem (itC_len _) i j (itC_lt hj) (itAt_some (by omega)) hj))) ?_
  refine GO_rdT (v := .pointer (some ⟨_, _, none⟩)) rfl (wn_none rfl) rfl (fun w => (rd_move rfl rfl)) ?_
  refine GO_rdT rfl (wn_none rfl) rfl (fun w => (rd_nilCheck rfl rfl)) ?_
  refine GO_rdT rfl (wn_none rfl) rfl (fun w => (rd_field rfl rfl fa149_0 _ rfl)) ?_
  refine GO_rd (v := .slice _ _ _) rfl rfl (wn_none rfl) rfl hpS (fun w hp => (rd_load rfl rfl Try.underlying147 rfl ((cell_of_cells (cells.keep hA hp.mod) _).trans rfl))) ?_
  refine GO_rdT (v := .int _ _) rfl (wn_none rfl) rfl (fun w => (rd_move rfl rfl)) ?_
  refine GO_rdT rfl (wn_none rfl) rfl (fun w => (rd_indexS (j := k) rfl rfl rfl Try.underlying147 ts151 rfl hk _ rfl)) ?_
  refine GO_rd rfl rfl (wn_none rfl) rfl hpS (fun w hp => (rd_loadN (L := itC Value.string (itAt h k)) rfl rfl Try.underlying151 rfl ts151 rfl (fun j u hj => (hR.keep hp.mod).elem (itC_len _) k j (itC_lt hj) (itAt_some (by omega)) hj))) ?_
  refine GO_two rfl rfl ?_ ?_
  ·skip
   refine GC_of_GL ?_
   refine GL_alloc (wn_none rfl) rfl rfl tz151 rfl hp ?_
   intro g w hp
   have hpS2 := hp.mods
   refine GL_nil ⟨fun _ => hpS2, ?_⟩
   refine GO_of_GL rfl ?_
   refine GL_alloc (wn_none rfl) rfl rfl tz151 rfl hp ?_
   intro g2 w hp
   have hpS3 := hp.mods
   refine GL_nil ⟨fun _ => hpS3, ?_⟩
   refine GO_of_GL rfl ?_
   refine GL_store (i := 1) (wn_none rfl) rfl rfl rfl rfl ts151 rfl rfl (oneC rfl (oneC rfl (oneC rfl one0))) hp rfl (by first | exact Nat.le_of_ble_eq_true rfl | simp [bys_length, *]) rfl ?_
   intro w hp
   have hpS4 := hp.mods
   refine GL_nil ⟨fun _ => hpS4, ?_⟩
   refine GO_of_GL rfl ?_
   refine GL_store (i := 0) (wn_none rfl) rfl rfl rfl rfl ts151 rfl rfl (oneC rfl (oneC rfl (oneC rfl one0))) hp rfl (by first | exact Nat.le_of_ble_eq_true rfl | simp [bys_length, *]) rfl ?_
   intro w hp
   have hpS5 := hp.mods
   refine GL_nil ⟨fun _ => hpS5, ?_⟩
   refine GO_nil ?_
   have hp := (((hp.front 0 rfl).front 1 rfl).take 2)
   exact ⟨g, g2, _, slots2 rfl rfl, hp⟩
  ·skip
   refine GC_of_GL ?_
   refine GL_alloc (wn_none rfl) rfl rfl tz151 rfl hp ?_
   intro g3 w hp
   have hpS6 := hp.mods
   refine GL_nil ⟨fun _ => hpS6, ?_⟩
   refine GO_of_GL rfl ?_
   refine GL_alloc (wn_none rfl) rfl rfl tz151 rfl hp ?_
   intro g4 w hp
   have hpS7 := hp.mods
   refine GL_nil ⟨fun _ => hpS7, ?_⟩
   refine GO_of_GL rfl ?_
   refine GL_store (i := 0) (wn_none rfl) rfl rfl rfl rfl ts151 rfl rfl (oneC rfl (oneC rfl (oneC rfl one0))) hp rfl (by first | exact Nat.le_of_ble_eq_true rfl | simp [bys_length, *]) rfl ?_
   intro w hp
   have hpS8 := hp.mods
   refine GL_nil ⟨fun _ => hpS8, ?_⟩
   refine GO_of_GL rfl ?_
   refine GL_store (i := 1) (wn_none rfl) rfl rfl rfl rfl ts151 rfl rfl (oneC rfl (oneC rfl (oneC rfl one0))) hp rfl (by first | exact Nat.le_of_ble_eq_true rfl | simp [bys_length, *]) rfl ?_
   intro w hp
   have hpS9 := hp.mods
   refine GL_nil ⟨fun _ => hpS9, ?_⟩
   refine GO_nil ?_
   have hp := (((hp.front 1 rfl).front 1 rfl).take 2)
   exact ⟨g4, g3, _, slots2 rfl rfl, hp⟩
 ·rintro f w ⟨gx, gy, fz, rfl, hp⟩
  refine GW_seq ?_
  refine GW_region ?_
  refine GL_rd (wn_none rfl) rfl (rd_field rfl rfl fa151_0 _ rfl) ?_
  refine GL_rd (wn_none rfl) rfl (rd_load rfl rfl Try.underlying3 rfl ((cell_of_cells (hp.get 0 rfl) _).trans rfl)) ?_
  refine GL_rd (wn_none rfl) rfl (rd_field rfl rfl fa151_0 _ rfl) ?_
  refine GL_rd (wn_none rfl) rfl (rd_load rfl rfl Try.underlying3 rfl ((cell_of_cells (hp.get 1 rfl) _).trans rfl)) ?_
  refine GL_rd (wn_none rfl) rfl (rd_bin rfl rfl rfl bo_lss) ?_
  refine GL_rd (v := .bool _) (wn_none rfl) rfl (rd_move rfl rfl) ?_
  refine GL_split (t := 28) (b := _) rfl ?_ ?_
  ·intro hb; (try simp only [decide_eq_true_eq, decide_eq_false_iff_not, Bool.not_eq_true', Bool.not_eq_false', Bool.not_eq_eq_eq_not, Bool.not_true, Bool.not_false, Int.not_lt, Int.not_le] at hb)
   have e := ltB_t.2 (.inl hb)
   refine GL_pass (nw_off rfl rfl rfl rfl rfl) rfl ?_
   refine GL_pass (nw_off rfl rfl rfl rfl rfl) rfl ?_
   refine GL_pass (nw_off rfl rfl rfl rfl rfl) rfl ?_
   refine GL_pass (nw_off rfl rfl rfl rfl rfl) rfl ?_
   refine GL_pass (nw_off rfl rfl rfl rfl rfl) rfl ?_
   refine GL_pass (nw_off rfl rfl rfl rfl rfl) rfl ?_
   refine GL_pass (nw_undef rfl rfl rfl rfl) rfl ?_
   refine GL_pass (nw_undef rfl rfl rfl rfl) rfl ?_
   refine GL_pass (nw_undef rfl rfl rfl rfl) rfl ?_
   refine GL_pass (nw_undef rfl rfl rfl rfl) rfl ?_
   refine GL_pass (nw_undef rfl rfl rfl rfl) rfl ?_
   refine GL_pass (nw_off rfl rfl rfl rfl rfl) rfl ?_
   refine GL_rd (v := .bool _) (wn_none rfl) rfl (rd_pickT rfl rfl rfl) ?_
   refine GL_rd (v := .bool _) (wn_none rfl) rfl (rd_assign rfl rfl) ?_
   refine GL_nil ?_
   refine GW_ret ?_
   exact ⟨_, res1 Try.results98 (rv_tmp (v := .bool _) rfl rfl), by rw [e], hp.mods⟩
  ·intro hb; (try simp only [decide_eq_true_eq, decide_eq_false_iff_not, Bool.not_eq_true', Bool.not_eq_false', Bool.not_eq_eq_eq_not, Bool.not_true, Bool.not_false, Int.not_lt, Int.not_le] at hb)
   have q1 := hb
   refine GL_rd (wn_on rfl rfl rfl rfl) rfl (rd_field rfl rfl fa151_0 _ rfl) ?_
   refine GL_rd (wn_on rfl rfl rfl rfl) rfl (rd_load rfl rfl Try.underlying3 rfl ((cell_of_cells (hp.get 0 rfl) _).trans rfl)) ?_
   refine GL_rd (wn_on rfl rfl rfl rfl) rfl (rd_field rfl rfl fa151_0 _ rfl) ?_
   refine GL_rd (wn_on rfl rfl rfl rfl) rfl (rd_load rfl rfl Try.underlying3 rfl ((cell_of_cells (hp.get 1 rfl) _).trans rfl)) ?_
   refine GL_rd (wn_on rfl rfl rfl rfl) rfl (rd_bin rfl rfl rfl bo_eql) ?_
   refine GL_rd (v := .bool _) (wn_on rfl rfl rfl rfl) rfl (rd_move rfl rfl) ?_
   refine GL_split (t := 34) (b := _) rfl ?_ ?_
   ·intro hb2; (try simp only [decide_eq_true_eq, decide_eq_false_iff_not, Bool.not_eq_true', Bool.not_eq_false', Bool.not_eq_eq_eq_not, Bool.not_true, Bool.not_false, Int.not_lt, Int.not_le] at hb2)
    have e := ltB_rk hb2
    refine GL_rd (wn_on rfl rfl rfl rfl) rfl (rd_field rfl rfl fa151_1 _ rfl) ?_
    refine GL_rd (wn_on rfl rfl rfl rfl) rfl (rd_load rfl rfl Try.underlying3 rfl ((cell_of_cells (hp.get 0 rfl) _).trans rfl)) ?_
    refine GL_rd (wn_on rfl rfl rfl rfl) rfl (rd_field rfl rfl fa151_1 _ rfl) ?_
    refine GL_rd (wn_on rfl rfl rfl rfl) rfl (rd_load rfl rfl Try.underlying3 rfl ((cell_of_cells (hp.get 1 rfl) _).trans rfl)) ?_
    refine GL_rd (wn_on rfl rfl rfl rfl) rfl (rd_bin rfl rfl rfl bo_lss) ?_
    refine GL_rd (v := .bool _) (wn_on rfl rfl rfl rfl) rfl (rd_pickT rfl rfl rfl) ?_
    refine GL_rd (v := .bool _) (wn_none rfl) rfl (rd_pickF rfl rfl rfl) ?_
    refine GL_rd (v := .bool _) (wn_none rfl) rfl (rd_assign rfl rfl) ?_
    refine GL_nil ?_
    refine GW_ret ?_
    exact ⟨_, res1 Try.results98 (rv_tmp (v := .bool _) rfl rfl), by rw [e], hp.mods⟩
   ·intro hb2; (try simp only [decide_eq_true_eq, decide_eq_false_iff_not, Bool.not_eq_true', Bool.not_eq_false', Bool.not_eq_eq_eq_not, Bool.not_true, Bool.not_false, Int.not_lt, Int.not_le] at hb2)
    have e := ltB_f.2 (show ¬ ((itAt h i).at_ < (itAt h k).at_ ∨ (itAt h i).at_ = (itAt h k).at_ ∧ (itAt h i).rk < (itAt h k).rk) by omega)
    refine GL_pass (nw_off rfl rfl rfl rfl rfl) rfl ?_
    refine GL_pass (nw_off rfl rfl rfl rfl rfl) rfl ?_
    refine GL_pass (nw_off rfl rfl rfl rfl rfl) rfl ?_
    refine GL_pass (nw_off rfl rfl rfl rfl rfl) rfl ?_
    refine GL_pass (nw_off rfl rfl rfl rfl rfl) rfl ?_
    refine GL_rd (v := .bool _) (wn_on rfl rfl rfl rfl) rfl (rd_pickF rfl rfl rfl) ?_
    refine GL_rd (v := .bool _) (wn_none rfl) rfl (rd_pickF rfl rfl rfl) ?_
    refine GL_rd (v := .bool _) (wn_none rfl) rfl (rd_assign rfl rfl) ?_
    refine GL_nil ?_
    refine GW_ret ?_
    exact ⟨_, res1 Try.results98 (rv_tmp (v := .bool _) rfl rfl), by rw [e], hp.mods⟩

theorem ags_Add (gq : Nat) (sv : Value) (n m : Nat) (h : List (It ByteArray)) (F0 : List Nat) (t : Int) (x : ByteArray) (w0 : World) (hn : n ≤ 1000000) (hm : m ≤ 1000000) (hh0 : HeapL h) (hp0 : Hp w0 F0 w0 [cells gq 149 [sv, .int .i64 (n : Int)], .row 151 3 sv m (h.flatMap (itC Value.string))]) : Does Try.prog 24 #[.pointer (some ⟨gq, 0, none⟩), .int .i64 t, .string x] w0 fun v w' => ∃ sv2 h2, v = .tuple #[] ∧ h2.Perm (h ++ [⟨t, n, x⟩]) ∧ HeapL h2 ∧ Hp w0 F0 w' [cells gq 149 [sv2, .int .i64 ((n + 1 : Nat) : Int)], .row 151 3 sv2 (m + 1) (h2.flatMap (itC Value.string))] := by
 obtain ⟨A, c, rfl⟩ := row_shape (hp0.get 1 rfl)
 have hlen := flat_len (itC_len _) (by decide) (row_len (hp0.get 1 rfl))
 have hmle := (Sl.row (hp0.get 1 rfl)).le
 refine does_of (l := [.pointer (some ⟨gq, 0, none⟩), .int .i64 t, .string x]) Try.func24 (by kernel_rfl) rfl Try.ntmps24 rfl rfl ?_
 have hp := hp0
 refine GW_seq ?_
 refine GW_drawnK 16 (.one 0 true (.one 1 true (.one 2 true (.one 3 true (.one 4 true (.one 5 true (.one 6 true (.one 7 true (.one 8 true (.one 9 true (.one 10 true (.one 11 true (.one 12 false (.one 13 false (.one 14 true (.one 15 true (.one 16 false .nil))))))))))))))))) mixed (by kernel_rfl) hp (fun _ h => (h.sub (.cons_cons _ (.cons _ .slnil)))) fun w hp => ?_
 have hpS := (hp.sub (.cons_cons _ (.cons _ .slnil)))
 refine GO_rdT (v := .pointer (some ⟨_, _, none⟩)) rfl (wn_none rfl) rfl (fun w => (rd_move rfl rfl)) ?_
 refine GO_rdT (v := .pointer (some ⟨_, _, none⟩)) rfl (wn_none rfl) rfl (fun w => (rd_move rfl rfl)) ?_
 refine GO_rdT rfl (wn_none rfl) rfl (fun w => (rd_nilCheck rfl rfl)) ?_
 refine GO_rdT rfl (wn_none rfl) rfl (fun w => (rd_field rfl rfl fa149_0 _ rfl)) ?_
 refine GO_rd (v := .slice _ _ _) rfl rfl (wn_none rfl) rfl hpS (fun w hp => (rd_load rfl rfl Try.underlying147 rfl ((cell_of_cells (hp.get 0 rfl) _).trans rfl))) ?_
 refine GO_rdT (v := .int _ _) rfl (wn_none rfl) rfl (fun w => (rd_move rfl rfl)) ?_
 refine GO_rdT (v := .pointer (some ⟨_, _, none⟩)) rfl (wn_none rfl) rfl (fun w => (rd_move rfl rfl)) ?_
 refine GO_rdT rfl (wn_none rfl) rfl (fun w => (rd_nilCheck rfl rfl)) ?_
 refine GO_rdT rfl (wn_none rfl) rfl (fun w => (rd_field rfl rfl fa149_1 _ rfl)) ?_
 refine GO_rd rfl rfl (wn_none rfl) rfl hpS (fun w hp => (rd_load rfl rfl Try.underlying3 rfl ((cell_of_cells (hp.get 0 rfl) _).trans rfl))) ?_
 refine GO_rdT (v := .string _) rfl (wn_none rfl) rfl (fun w => (rd_move rfl rfl)) ?_
 refine GO_rd rfl rfl (wn_none rfl) rfl hpS (fun w hp => (rd_buildS (L := itC Value.string ⟨t, n, x⟩) rfl tz151 pl151 (by kernel_rfl))) ?_
 refine GO_of_GL rfl ?_
 refine GL_lit (L := itC Value.string ⟨t, n, x⟩) (wn_none rfl) rfl rfl Try.underlying147 ts151 tz151 rfl (by kernel_rfl) rfl rfl hp ?_
 intro g w hp
 have hpS2 := (hp.sub (.cons _ (.cons_cons _ (.cons _ .slnil))))
 refine GL_nil ⟨fun _ => hpS2, ?_⟩
 refine GO_of_GL rfl ?_
 refine GL_append (i := 2) (wn_none rfl) rfl rfl rfl rfl Try.underlying147 ti151 rfl (by decide) hp rfl (Sl.row (hp.get 0 rfl)) (itC_one _) (by omega) (by omega) ?_
 intro v w hp
 obtain ⟨Av, cv, rfl⟩ := row_shape (hp.get 2 rfl)
 rw [← flat_snoc] at hp
 obtain ⟨gR, cap, hq, hcap⟩ := row_addr (hp.get 2 rfl) (by omega)
 injection hq with h1 h2 h3
 subst h1 h3
 have hpS3 := (hp.sub (.cons _ (.cons_cons _ (.cons _ .slnil))))
 refine GL_nil ⟨fun _ => hpS3, ?_⟩
 refine GO_rdT rfl (wn_none rfl) rfl (fun w => (rd_nilCheck rfl rfl)) ?_
 refine GO_rdT rfl (wn_none rfl) rfl (fun w => (rd_field rfl rfl fa149_0 _ rfl)) ?_
 refine GO_of_GL rfl ?_
 refine GL_store (i := 1) (wn_none rfl) rfl rfl rfl rfl ts147 rfl rfl (one1 rfl) hp rfl (by first | exact Nat.le_of_ble_eq_true rfl | simp [bys_length, *]) rfl ?_
 intro w hp
 refine GL_nil ⟨fun h => absurd h (by decide), ?_⟩
 refine GO_nil ?_
 refine GW_seq ?_
 refine GW_region ?_
 refine GL_rd (v := .pointer (some ⟨_, _, none⟩)) (wn_none rfl) rfl (rd_move rfl rfl) ?_
 refine GL_rd (wn_none rfl) rfl (rd_nilCheck rfl rfl) ?_
 refine GL_rd (wn_none rfl) rfl (rd_field rfl rfl fa149_1 _ rfl) ?_
 refine GL_rd (wn_none rfl) rfl (rd_load rfl rfl Try.underlying3 rfl ((cell_of_cells (hp.get 1 rfl) _).trans rfl)) ?_
 refine GL_rd (wn_none rfl) rfl (rd_bin rfl rfl rfl (bo_add64 (by omega))) ?_
 refine GL_rd (wn_none rfl) rfl (rd_nilCheck rfl rfl) ?_
 refine GL_rd (wn_none rfl) rfl (rd_field rfl rfl fa149_1 _ rfl) ?_
 refine GL_store (i := 1) (wn_none rfl) rfl rfl rfl rfl ts3 rfl rfl (one1 rfl) hp rfl (by first | exact Nat.le_of_ble_eq_true rfl | simp [bys_length, *]) rfl ?_
 intro w hp
 refine GL_nil ?_
 refine GW_seq ?_
 refine GW_region ?_
 refine GL_rd (v := .pointer (some ⟨_, _, none⟩)) (wn_none rfl) rfl (rd_move rfl rfl) ?_
 refine GL_rd (wn_none rfl) rfl (rd_nilCheck rfl rfl) ?_
 refine GL_rd (wn_none rfl) rfl (rd_field rfl rfl fa149_0 _ rfl) ?_
 refine GL_rd (v := .slice _ _ _) (wn_none rfl) rfl (rd_load rfl rfl Try.underlying147 rfl ((cell_of_cells (hp.get 1 rfl) _).trans rfl)) ?_
 refine GL_rd (wn_none rfl) rfl (rd_len rfl rfl Try.underlying147) ?_
 refine GL_rd (wn_none rfl) rfl (rd_bin rfl rfl rfl (bo_sub64 (by omega))) ?_
 refine GL_rd (v := .int _ _) (wn_none rfl) rfl (rd_assign rfl rfl) ?_
 refine GL_nil ?_
 refine GW_block ?_
 refine GW_loop ?_
 refine Lp_ind (α := Nat × List (It ByteArray)) (fun a_0 f_0 w' => match a_0 with | (i, hh) => ∃ fz, f_0 = (upd (upd fz 0 (.pointer (some ⟨gq, 0, none⟩))) 6 (.int .i64 (i : Int))) ∧ Hp w0 F0 w' [cells gq 149 [(.slice (some ⟨gR, 0, none⟩) (m + 1) cv), .int .i64 ((n : Int) + 1)], .row 151 3 (.slice (some ⟨gR, 0, none⟩) (m + 1) cv) (m + 1) (hh.flatMap (itC Value.string))] ∧ (i ≤ m) ∧ (hh.Perm (h ++ [⟨t, n, x⟩])) ∧ (UpI hh i)) (fun a_0 => match a_0 with | (i, hh) => i) ?_ (m, h ++ [⟨t, n, x⟩]) _ _ ?_
 ·rintro ⟨i, hh⟩ f wz ⟨fz, rfl, hp, hi0, hperm, hup⟩ ihL0
  have hl2 : hh.length = m + 1 := by rw [hperm.length_eq, List.length_append, hlen]; rfl
  refine Lp_round ?_
  refine GW_seq ?_
  refine GW_seq ?_
  refine GW_region ?_
  refine GL_rd (v := .int _ _) (wn_none rfl) rfl (rd_move rfl rfl) ?_
  refine GL_rd (wn_none rfl) rfl (rd_bin rfl rfl rfl bo_gtr) ?_
  refine GL_nil ?_
  refine GW_cond rfl (fun hb => ?_) (fun hb => ?_)
  ·(try simp only [decide_eq_true_eq, decide_eq_false_iff_not, Bool.not_eq_true', Bool.not_eq_false', Bool.not_eq_eq_eq_not, Bool.not_true, Bool.not_false, Int.not_lt, Int.not_le] at hb)
   refine GW_skip ?_
   refine GW_block ?_
   refine GW_seq ?_
   refine GW_region ?_
   refine GL_rd (v := .int _ _) (wn_none rfl) rfl (rd_move rfl rfl) ?_
   refine GL_rd (wn_none rfl) rfl (rd_bin rfl rfl rfl (bo_sub64 (by omega))) ?_
   refine GL_rd (wn_none rfl) rfl (rd_bin rfl rfl rfl (bo_int (bo_quo64 (by omega) (by omega) (by omega)) (by omega : ((i : Int) - 1) / 2 = ((((i - 1) / 2) : Nat) : Int)))) ?_
   refine GL_rd (v := .int _ _) (wn_none rfl) rfl (rd_assign rfl rfl) ?_
   refine GL_nil ?_
   refine GW_seq ?_
   refine GW_seq ?_
   refine GW_region ?_
   refine GL_rd (v := .pointer (some ⟨_, _, none⟩)) (wn_none rfl) rfl (rd_move rfl rfl) ?_
   refine GL_rd (v := .int _ _) (wn_none rfl) rfl (rd_move rfl rfl) ?_
   refine GL_rd (v := .int _ _) (wn_none rfl) rfl (rd_move rfl rfl) ?_
   refine GL_call (wn_none rfl) rfl rfl (ags_ahead gq _ _ _ hh i ((i - 1) / 2) _ (hp.get 0 rfl) (Sl.row (hp.get 1 rfl)) (by omega) (by omega)) rfl ?_
   rintro _ w ⟨rfl, hk⟩
   have hp := hp.comp hk
   refine GL_rd (wn_none rfl) rfl (rd_not rfl rfl) ?_
   refine GL_nil ?_
   refine GW_cond rfl (fun hb2 => ?_) (fun hb2 => ?_)
   ·(try simp only [decide_eq_true_eq, decide_eq_false_iff_not, Bool.not_eq_true', Bool.not_eq_false', Bool.not_eq_eq_eq_not, Bool.not_true, Bool.not_false, Int.not_lt, Int.not_le] at hb2)
    have hheap := up_stop hup (.inr hb2)
    refine GW_exit ?_
    exact ⟨_, res0 Try.results24 , (.slice (some ⟨gR, 0, none⟩) (m + 1) cv), hh, rfl, hperm, hheap, hp⟩
   ·(try simp only [decide_eq_true_eq, decide_eq_false_iff_not, Bool.not_eq_true', Bool.not_eq_false', Bool.not_eq_eq_eq_not, Bool.not_true, Bool.not_false, Int.not_lt, Int.not_le] at hb2)
    have hah := hb2
    have hupl : ((i - 1) / 2) < m + 1 := by omega
    refine GW_skip ?_
    refine GW_seq ?_
    refine GW_drawnK 25 (.one 0 true (.one 1 true (.one 2 true (.one 3 true (.one 4 true (.one 5 true (.one 6 true (.one 7 true (.one 8 true (.one 9 true (.one 10 true (.one 11 true (.one 12 true (.one 13 true (.one 14 true (.one 15 true (.one 16 true (.one 17 true (.one 18 true (.one 19 true (.one 20 true (.one 21 true (.one 22 true (.one 23 true (.one 24 true (.one 25 false (.one 26 false (.one 27 false .nil)))))))))))))))))))))))))))) mixed (by kernel_rfl) hp (fun _ h => h) fun w hp => ?_
    have hpS4 := hp
    refine GO_rdT (v := .pointer (some ⟨_, _, none⟩)) rfl (wn_none rfl) rfl (fun w => (rd_move rfl rfl)) ?_
    refine GO_rdT rfl (wn_none rfl) rfl (fun w => (rd_nilCheck rfl rfl)) ?_
    refine GO_rdT rfl (wn_none rfl) rfl (fun w => (rd_field rfl rfl fa149_0 _ rfl)) ?_
    refine GO_rd (v := .slice _ _ _) rfl rfl (wn_none rfl) rfl hpS4 (fun w hp => (rd_load rfl rfl Try.underlying147 rfl ((cell_of_cells (hp.get 0 rfl) _).trans rfl))) ?_
    refine GO_rdT (v := .int _ _) rfl (wn_none rfl) rfl (fun w => (rd_move rfl rfl)) ?_
    refine GO_rdT (v := .pointer (some ⟨_, _, none⟩)) rfl (wn_none rfl) rfl (fun w => (rd_move rfl rfl)) ?_
    refine GO_rdT rfl (wn_none rfl) rfl (fun w => (rd_nilCheck rfl rfl)) ?_
    refine GO_rdT rfl (wn_none rfl) rfl (fun w => (rd_field rfl rfl fa149_0 _ rfl)) ?_
    refine GO_rd (v := .slice _ _ _) rfl rfl (wn_none rfl) rfl hpS4 (fun w hp => (rd_load rfl rfl Try.underlying147 rfl ((cell_of_cells (hp.get 0 rfl) _).trans rfl))) ?_
    refine GO_rdT (v := .int _ _) rfl (wn_none rfl) rfl (fun w => (rd_move rfl rfl)) ?_
    refine GO_rdT (v := .pointer (some ⟨_, _, none⟩)) rfl (wn_none rfl) rfl (fun w => (rd_move rfl rfl)) ?_
    refine GO_rdT rfl (wn_none rfl) rfl (fun w => (rd_nilCheck rfl rfl)) ?_
    refine GO_rdT rfl (wn_none rfl) rfl (fun w => (rd_field rfl rfl fa149_0 _ rfl)) ?_
    refine GO_rd (v := .slice _ _ _) rfl rfl (wn_none rfl) rfl hpS4 (fun w hp => (rd_load rfl rfl Try.underlying147 rfl ((cell_of_cells (hp.get 0 rfl) _).trans rfl))) ?_
    refine GO_rdT (v := .int _ _) rfl (wn_none rfl) rfl (fun w => (rd_move rfl rfl)) ?_
    refine GO_rdT rfl (wn_none rfl) rfl (fun w => (rd_indexS (j := ((i - 1) / 2)) rfl rfl rfl Try.underlying147 ts151 rfl (by omega) _ rfl)) ?_
    refine GO_rd rfl rfl (wn_none rfl) rfl hpS4 (fun w hp => (rd_loadN (L := itC Value.string (itAt hh ((i - 1) / 2))) rfl rfl Try.underlying151 rfl ts151 rfl (fun j u hj => (Sl.row (hp.get 1 rfl)).elem (itC_len _) ((i - 1) / 2) j (itC_lt hj) (itAt_some (by omega)) hj))) ?_
    refine GO_rdT (v := .pointer (some ⟨_, _, none⟩)) rfl (wn_none rfl) rfl (fun w => (rd_move rfl rfl)) ?_
    refine GO_rdT rfl (wn_none rfl) rfl (fun w => (rd_nilCheck rfl rfl)) ?_
    refine GO_rdT rfl (wn_none rfl) rfl (fun w => (rd_field rfl rfl fa149_0 _ rfl)) ?_
    refine GO_rd (v := .slice _ _ _) rfl rfl (wn_none rfl) rfl hpS4 (fun w hp => (rd_load rfl rfl Try.underlying147 rfl ((cell_of_cells (hp.get 0 rfl) _).trans rfl))) ?_
    refine GO_rdT (v := .int _ _) rfl (wn_none rfl) rfl (fun w => (rd_move rfl rfl)) ?_
    refine GO_rdT rfl (wn_none rfl) rfl (fun w => (rd_indexS (j := i) rfl rfl rfl Try.underlying147 ts151 rfl (by omega) _ rfl)) ?_
    refine GO_rd rfl rfl (wn_none rfl) rfl hpS4 (fun w hp => (rd_loadN (L := itC Value.string (itAt hh i)) rfl rfl Try.underlying151 rfl ts151 rfl (fun j u hj => (Sl.row (hp.get 1 rfl)).elem (itC_len _) i j (itC_lt hj) (itAt_some (by omega)) hj))) ?_
    refine GO_rdT rfl (wn_none rfl) rfl (fun w => (rd_indexS (j := i) rfl rfl rfl Try.underlying147 ts151 rfl (by omega) _ rfl)) ?_
    refine GO_of_GL rfl ?_
    refine GL_storeR (i := 1) (wn_none rfl) rfl rfl rfl rfl ts151 rfl rfl (itC_one _) hp rfl rfl (by rw [flat_length (itC_len _)]; (try rw [List.length_set]); omega) (flat_set0 (itC_len _) hh i (itAt hh ((i - 1) / 2)) (by (try rw [List.length_set]); omega)) ?_
    intro w hp
    refine GL_nil ⟨fun h => absurd h (by decide), ?_⟩
    refine GO_of_GL rfl ?_
    refine GL_rd (wn_none rfl) rfl (rd_indexS (j := ((i - 1) / 2)) rfl rfl rfl Try.underlying147 ts151 rfl hupl _ rfl) (GL_nil ⟨fun h => absurd h (by decide), ?_⟩)
    refine GO_of_GL rfl ?_
    refine GL_storeR (i := 1) (wn_none rfl) rfl rfl rfl rfl ts151 rfl rfl (itC_one _) hp rfl rfl (by rw [flat_length (itC_len _)]; (try rw [List.length_set]); omega) (flat_set0 (itC_len _) _ ((i - 1) / 2) (itAt hh i) (by (try rw [List.length_set]); omega)) ?_
    intro w hp
    refine GL_nil ⟨fun h => absurd h (by decide), ?_⟩
    refine GO_nil ?_
    refine GW_region ?_
    refine GL_rd (v := .int _ _) (wn_none rfl) rfl (rd_move rfl rfl) ?_
    refine GL_rd (v := .int _ _) (wn_none rfl) rfl (rd_assign rfl rfl) ?_
    refine GL_nil ?_
    exact ihL0 (((i - 1) / 2), swapI hh i ((i - 1) / 2)) _ _ (by simp only []; omega) ⟨_, slots2 rfl rfl, hp, by omega, (swap_perm (by omega) (by omega)).trans hperm, up_step hup (by omega) (by omega) hah⟩
  ·(try simp only [decide_eq_true_eq, decide_eq_false_iff_not, Bool.not_eq_true', Bool.not_eq_false', Bool.not_eq_eq_eq_not, Bool.not_true, Bool.not_false, Int.not_lt, Int.not_le] at hb)
   have hheap := up_stop hup (.inl (by omega))
   refine GW_exit ?_
   exact ⟨_, res0 Try.results24 , (.slice (some ⟨gR, 0, none⟩) (m + 1) cv), hh, rfl, hperm, hheap, hp⟩
 ·have hp := (((hp.front 2 rfl).front 2 rfl).take 2)
  refine ⟨_, slots2 rfl (congrArg (Value.int .i64) (by omega)), hp, Nat.le_refl _, .refl _, by rw [← hlen]; exact up_first hh0 _⟩

theorem ags_sink (gq : Nat) (sv : Value) (n m : Nat) (h : List (It ByteArray)) (F0 : List Nat) (w0 : World) (hm : m ≤ 1000000) (hd0 : DownI h 0) (hp0 : Hp w0 F0 w0 [cells gq 149 [sv, .int .i64 (n : Int)], .row 151 3 sv m (h.flatMap (itC Value.string))]) : Does Try.prog 154 #[.pointer (some ⟨gq, 0, none⟩)] w0 fun v w' => ∃ h2, v = .tuple #[] ∧ h2.Perm h ∧ HeapL h2 ∧ Hp w0 F0 w' [cells gq 149 [sv, .int .i64 (n : Int)], .row 151 3 sv m (h2.flatMap (itC Value.string))] := by
 obtain ⟨A, c, rfl⟩ := row_shape (hp0.get 1 rfl)
 have hlen := flat_len (itC_len _) (by decide) (row_len (hp0.get 1 rfl))
 have hmle := (Sl.row (hp0.get 1 rfl)).le
 refine does_of (l := [.pointer (some ⟨gq, 0, none⟩)]) Try.func154 (by kernel_rfl) rfl Try.ntmps154 rfl rfl ?_
 have hp := hp0
 refine GW_seq ?_
 refine GW_region ?_
 refine GL_rd (v := .int _ _) (wn_none rfl) rfl (rd_assign rfl rfl) ?_
 refine GL_nil ?_
 refine GW_block ?_
 refine GW_loop ?_
 refine Lp_ind (α := Nat × List (It ByteArray)) (fun a_0 f_0 w' => match a_0 with | (i, hh) => ∃ fz, f_0 = (upd (upd fz 0 (.pointer (some ⟨gq, 0, none⟩))) 2 (.int .i64 (i : Int))) ∧ Hp w0 F0 w' [cells gq 149 [(.slice A m c), .int .i64 (n : Int)], .row 151 3 (.slice A m c) m (hh.flatMap (itC Value.string))] ∧ (i ≤ m) ∧ (hh.Perm h) ∧ (DownI hh i)) (fun a_0 => match a_0 with | (i, hh) => m - i) ?_ (0, h) _ _ ?_
 ·rintro ⟨i, hh⟩ f wz ⟨fz, rfl, hp, hi0, hperm, hdn⟩ ihL0
  have hl2 : hh.length = m := by rw [hperm.length_eq, hlen]
  refine Lp_round ?_
  refine GW_block ?_
  refine GW_seq ?_
  refine GW_region ?_
  refine GL_rd (v := .int _ _) (wn_none rfl) rfl (rd_move rfl rfl) ?_
  refine GL_rd (v := .int _ _) (wn_none rfl) rfl (rd_assign rfl rfl) ?_
  refine GL_nil ?_
  refine GW_seq ?_
  refine GW_seq ?_
  refine GW_region ?_
  refine GL_rd (v := .int _ _) (wn_none rfl) rfl (rd_move rfl rfl) ?_
  refine GL_rd (wn_none rfl) rfl (rd_bin rfl rfl rfl (bo_mul64 (by omega))) ?_
  refine GL_rd (wn_none rfl) rfl (rd_bin rfl rfl rfl (bo_add64 (by omega))) ?_
  refine GL_rd (v := .int _ _) (wn_none rfl) rfl (rd_move rfl rfl) ?_
  refine GL_rd (wn_none rfl) rfl (rd_bin rfl rfl rfl (bo_mul64 (by omega))) ?_
  refine GL_rd (wn_none rfl) rfl (rd_bin rfl rfl rfl (bo_add64 (by omega))) ?_
  refine GL_rd (wn_none rfl) rfl (rd_buildA (L := [.int .i64 (2 * (i : Int) + 1), .int .i64 (2 * (i : Int) + 2)]) rfl tz222 Try.underlying222 ts3 (by kernel_rfl)) ?_
  refine GL_rd (v := .int _ _) (wn_none rfl) rfl (rd_move rfl rfl) ?_
  refine GL_nil ?_
  refine GW_block ?_
  refine GW_loop ?_
  refine Lp_ind (α := Nat × Nat) (fun a_0 f_0 w' => match a_0 with | (j, b) => ∃ fz, f_0 = (upd (upd (upd (upd (upd fz 0 (.pointer (some ⟨gq, 0, none⟩))) 2 (.int .i64 (i : Int))) 3 (.int .i64 (b : Int))) 13 (.agg ⟨[.int .i64 (2 * (i : Int) + 1), .int .i64 (2 * (i : Int) + 2)]⟩)) 14 (.int .i64 (j : Int))) ∧ Hp w0 F0 w' [cells gq 149 [(.slice A m c), .int .i64 (n : Int)], .row 151 3 (.slice A m c) m (hh.flatMap (itC Value.string))] ∧ (j ≤ 2) ∧ (BestI hh i j b)) (fun a_0 => match a_0 with | (j, b) => 2 - j) ?_ (0, i) _ _ ?_
  ·rintro ⟨j, b⟩ f wz ⟨fz, rfl, hp, hj, hbest⟩ ihL1
   have hbl : b < m ∨ b = i := by rcases hbest.1 with e | ⟨_, e, _⟩ <;> omega
   refine Lp_round ?_
   refine GW_seq ?_
   refine GW_region ?_
   refine GL_rd (wn_none rfl) rfl (rd_bin rfl rfl rfl bo_lss) ?_
   refine GL_nil ?_
   refine GW_seq ?_
   refine GW_cond rfl (fun hb => ?_) (fun hb => ?_)
   ·(try simp only [decide_eq_true_eq, decide_eq_false_iff_not, Bool.not_eq_true', Bool.not_eq_false', Bool.not_eq_eq_eq_not, Bool.not_true, Bool.not_false, Int.not_lt, Int.not_le] at hb)
    refine GW_skip ?_
    refine GW_seq ?_
    refine GW_block ?_
    refine GW_seq ?_
    refine GW_region ?_
    refine GL_rd (wn_none rfl) rfl (rd_indexV (j := j) rfl rfl rfl Try.underlying222 Try.underlying3 rfl ts3 rfl (by omega) (by rcases (show j = 0 ∨ j = 1 by omega) with rfl | rfl <;> rfl : _ = some (.int .i64 ((2 * i + 1 + j : Nat) : Int)))) ?_
    refine GL_rd (v := .int _ _) (wn_none rfl) rfl (rd_assign rfl rfl) ?_
    refine GL_nil ?_
    refine GW_seq ?_
    refine GW_region ?_
    refine GL_rd (v := .int _ _) (wn_none rfl) rfl (rd_move rfl rfl) ?_
    refine GL_rd (v := .pointer (some ⟨_, _, none⟩)) (wn_none rfl) rfl (rd_move rfl rfl) ?_
    refine GL_rd (wn_none rfl) rfl (rd_nilCheck rfl rfl) ?_
    refine GL_rd (wn_none rfl) rfl (rd_field rfl rfl fa149_0 _ rfl) ?_
    refine GL_rd (v := .slice _ _ _) (wn_none rfl) rfl (rd_load rfl rfl Try.underlying147 rfl ((cell_of_cells (hp.get 0 rfl) _).trans rfl)) ?_
    refine GL_rd (wn_none rfl) rfl (rd_len rfl rfl Try.underlying147) ?_
    refine GL_rd (wn_none rfl) rfl (rd_bin rfl rfl rfl bo_lss) ?_
    refine GL_rd (v := .bool _) (wn_none rfl) rfl (rd_move rfl rfl) ?_
    refine GL_split (t := 24) (b := _) rfl ?_ ?_
    ·intro hb2; (try simp only [decide_eq_true_eq, decide_eq_false_iff_not, Bool.not_eq_true', Bool.not_eq_false', Bool.not_eq_eq_eq_not, Bool.not_true, Bool.not_false, Int.not_lt, Int.not_le] at hb2)
     have hlt : 2 * i + 1 + j < m := by have := hb2; omega
     refine GL_rd (v := .pointer (some ⟨_, _, none⟩)) (wn_on rfl rfl rfl rfl) rfl (rd_move rfl rfl) ?_
     refine GL_rd (v := .int _ _) (wn_on rfl rfl rfl rfl) rfl (rd_move rfl rfl) ?_
     refine GL_rd (v := .int _ _) (wn_on rfl rfl rfl rfl) rfl (rd_move rfl rfl) ?_
     refine GL_call (wn_on rfl rfl rfl rfl) rfl rfl (ags_ahead gq _ _ _ hh (2 * i + 1 + j) b _ (hp.get 0 rfl) (Sl.row (hp.get 1 rfl)) (by omega) (by omega)) rfl ?_
     rintro _ w ⟨rfl, hk⟩
     have hp := hp.comp hk
     refine GL_rd (v := .bool _) (wn_none rfl) rfl (rd_pickT rfl rfl rfl) ?_
     refine GL_nil ?_
     refine GW_cond rfl (fun hb3 => ?_) (fun hb3 => ?_)
     ·(try simp only [decide_eq_true_eq, decide_eq_false_iff_not, Bool.not_eq_true', Bool.not_eq_false', Bool.not_eq_eq_eq_not, Bool.not_true, Bool.not_false, Int.not_lt, Int.not_le] at hb3)
      have hta := hb3
      refine GW_region ?_
      refine GL_rd (v := .int _ _) (wn_none rfl) rfl (rd_move rfl rfl) ?_
      refine GL_rd (v := .int _ _) (wn_none rfl) rfl (rd_assign rfl rfl) ?_
      refine GL_nil ?_
      refine GW_region ?_
      refine GL_rd (wn_none rfl) rfl (rd_bin rfl rfl rfl (bo_add64 (by omega))) ?_
      refine GL_rd (v := .int _ _) (wn_none rfl) rfl (rd_move rfl rfl) ?_
      refine GL_nil ?_
      exact ihL1 (j + 1, 2 * i + 1 + j) _ _ (by simp only []; omega) ⟨_, slots5 rfl rfl rfl rfl rfl, hp, by omega, best_take hbest (by omega) (by omega) hta⟩
     ·(try simp only [decide_eq_true_eq, decide_eq_false_iff_not, Bool.not_eq_true', Bool.not_eq_false', Bool.not_eq_eq_eq_not, Bool.not_true, Bool.not_false, Int.not_lt, Int.not_le] at hb3)
      have hke : ¬ 2 * i + 1 + j < hh.length ∨ ltB (itAt hh (2 * i + 1 + j)) (itAt hh b) = false := .inr hb3
      refine GW_skip ?_
      refine GW_region ?_
      refine GL_rd (wn_none rfl) rfl (rd_bin rfl rfl rfl (bo_add64 (by omega))) ?_
      refine GL_rd (v := .int _ _) (wn_none rfl) rfl (rd_move rfl rfl) ?_
      refine GL_nil ?_
      exact ihL1 (j + 1, b) _ _ (by simp only []; omega) ⟨_, slots5 rfl rfl rfl rfl rfl, hp, by omega, best_keep hbest hke⟩
    ·intro hb2; (try simp only [decide_eq_true_eq, decide_eq_false_iff_not, Bool.not_eq_true', Bool.not_eq_false', Bool.not_eq_eq_eq_not, Bool.not_true, Bool.not_false, Int.not_lt, Int.not_le] at hb2)
     have hke : ¬ 2 * i + 1 + j < hh.length ∨ ltB (itAt hh (2 * i + 1 + j)) (itAt hh b) = false := .inl (by have := hb2; omega)
     refine GL_pass (nw_off rfl rfl rfl rfl rfl) rfl ?_
     refine GL_pass (nw_off rfl rfl rfl rfl rfl) rfl ?_
     refine GL_pass (nw_off rfl rfl rfl rfl rfl) rfl ?_
     refine GL_pass (nw_off rfl rfl rfl rfl rfl) rfl ?_
     refine GL_rd (v := .bool _) (wn_none rfl) rfl (rd_pickF rfl rfl rfl) ?_
     refine GL_nil ?_
     refine GW_false rfl ?_
     refine GW_skip ?_
     refine GW_region ?_
     refine GL_rd (wn_none rfl) rfl (rd_bin rfl rfl rfl (bo_add64 (by omega))) ?_
     refine GL_rd (v := .int _ _) (wn_none rfl) rfl (rd_move rfl rfl) ?_
     refine GL_nil ?_
     exact ihL1 (j + 1, b) _ _ (by simp only []; omega) ⟨_, slots5 rfl rfl rfl rfl rfl, hp, by omega, best_keep hbest hke⟩
   ·(try simp only [decide_eq_true_eq, decide_eq_false_iff_not, Bool.not_eq_true', Bool.not_eq_false', Bool.not_eq_eq_eq_not, Bool.not_true, Bool.not_false, Int.not_lt, Int.not_le] at hb)
    obtain rfl : j = 2 := by omega
    refine GW_exit ?_
    refine GW_seq ?_
    refine GW_seq ?_
    refine GW_region ?_
    refine GL_rd (v := .int _ _) (wn_none rfl) rfl (rd_move rfl rfl) ?_
    refine GL_rd (v := .int _ _) (wn_none rfl) rfl (rd_move rfl rfl) ?_
    refine GL_rd (wn_none rfl) rfl (rd_bin rfl rfl rfl bo_eql) ?_
    refine GL_nil ?_
    refine GW_cond rfl (fun hb4 => ?_) (fun hb4 => ?_)
    ·(try simp only [decide_eq_true_eq, decide_eq_false_iff_not, Bool.not_eq_true', Bool.not_eq_false', Bool.not_eq_eq_eq_not, Bool.not_true, Bool.not_false, Int.not_lt, Int.not_le] at hb4)
     obtain rfl : b = i := by omega
     have hheap := down_stop hdn hbest
     refine GW_ret ?_
     exact ⟨_, res0 Try.results154 , hh, rfl, hperm, hheap, hp⟩
    ·(try simp only [decide_eq_true_eq, decide_eq_false_iff_not, Bool.not_eq_true', Bool.not_eq_false', Bool.not_eq_eq_eq_not, Bool.not_true, Bool.not_false, Int.not_lt, Int.not_le] at hb4)
     have hne : ¬ b = i := by omega
     have him : i < hh.length := by rcases hbest.1 with e | ⟨_, _, _, _⟩ <;> omega
     have hbm : b < m := by omega
     have hst := down_step hdn him hbest hne
     have hst2 := hst.2
     obtain ⟨gR, cap, hq, hcap⟩ := row_addr (hp.get 1 rfl) (by omega)
     injection hq with h1 h2 h3
     subst h1 h3
     refine GW_skip ?_
     refine GW_seq ?_
     refine GW_drawnK 25 (.one 0 true (.one 1 true (.one 2 true (.one 3 true (.one 4 true (.one 5 true (.one 6 true (.one 7 true (.one 8 true (.one 9 true (.one 10 true (.one 11 true (.one 12 true (.one 13 true (.one 14 true (.one 15 true (.one 16 true (.one 17 true (.one 18 true (.one 19 true (.one 20 true (.one 21 true (.one 22 true (.one 23 true (.one 24 true (.one 25 false (.one 26 false (.one 27 false .nil)))))))))))))))))))))))))))) mixed (by kernel_rfl) hp (fun _ h => h) fun w hp => ?_
     have hpS := hp
     refine GO_rdT (v := .pointer (some ⟨_, _, none⟩)) rfl (wn_none rfl) rfl (fun w => (rd_move rfl rfl)) ?_
     refine GO_rdT rfl (wn_none rfl) rfl (fun w => (rd_nilCheck rfl rfl)) ?_
     refine GO_rdT rfl (wn_none rfl) rfl (fun w => (rd_field rfl rfl fa149_0 _ rfl)) ?_
     refine GO_rd (v := .slice _ _ _) rfl rfl (wn_none rfl) rfl hpS (fun w hp => (rd_load rfl rfl Try.underlying147 rfl ((cell_of_cells (hp.get 0 rfl) _).trans rfl))) ?_
     refine GO_rdT (v := .int _ _) rfl (wn_none rfl) rfl (fun w => (rd_move rfl rfl)) ?_
     refine GO_rdT (v := .pointer (some ⟨_, _, none⟩)) rfl (wn_none rfl) rfl (fun w => (rd_move rfl rfl)) ?_
     refine GO_rdT rfl (wn_none rfl) rfl (fun w => (rd_nilCheck rfl rfl)) ?_
     refine GO_rdT rfl (wn_none rfl) rfl (fun w => (rd_field rfl rfl fa149_0 _ rfl)) ?_
     refine GO_rd (v := .slice _ _ _) rfl rfl (wn_none rfl) rfl hpS (fun w hp => (rd_load rfl rfl Try.underlying147 rfl ((cell_of_cells (hp.get 0 rfl) _).trans rfl))) ?_
     refine GO_rdT (v := .int _ _) rfl (wn_none rfl) rfl (fun w => (rd_move rfl rfl)) ?_
     refine GO_rdT (v := .pointer (some ⟨_, _, none⟩)) rfl (wn_none rfl) rfl (fun w => (rd_move rfl rfl)) ?_
     refine GO_rdT rfl (wn_none rfl) rfl (fun w => (rd_nilCheck rfl rfl)) ?_
     refine GO_rdT rfl (wn_none rfl) rfl (fun w => (rd_field rfl rfl fa149_0 _ rfl)) ?_
     refine GO_rd (v := .slice _ _ _) rfl rfl (wn_none rfl) rfl hpS (fun w hp => (rd_load rfl rfl Try.underlying147 rfl ((cell_of_cells (hp.get 0 rfl) _).trans rfl))) ?_
     refine GO_rdT (v := .int _ _) rfl (wn_none rfl) rfl (fun w => (rd_move rfl rfl)) ?_
     refine GO_rdT rfl (wn_none rfl) rfl (fun w => (rd_indexS (j := b) rfl rfl rfl Try.underlying147 ts151 rfl hbm _ rfl)) ?_
     refine GO_rd rfl rfl (wn_none rfl) rfl hpS (fun w hp => (rd_loadN (L := itC Value.string (itAt hh b)) rfl rfl Try.underlying151 rfl ts151 rfl (fun j u hj => (Sl.row (hp.get 1 rfl)).elem (itC_len _) b j (itC_lt hj) (itAt_some (by omega)) hj))) ?_
     refine GO_rdT (v := .pointer (some ⟨_, _, none⟩)) rfl (wn_none rfl) rfl (fun w => (rd_move rfl rfl)) ?_
     refine GO_rdT rfl (wn_none rfl) rfl (fun w => (rd_nilCheck rfl rfl)) ?_
     refine GO_rdT rfl (wn_none rfl) rfl (fun w => (rd_field rfl rfl fa149_0 _ rfl)) ?_
     refine GO_rd (v := .slice _ _ _) rfl rfl (wn_none rfl) rfl hpS (fun w hp => (rd_load rfl rfl Try.underlying147 rfl ((cell_of_cells (hp.get 0 rfl) _).trans rfl))) ?_
     refine GO_rdT (v := .int _ _) rfl (wn_none rfl) rfl (fun w => (rd_move rfl rfl)) ?_
     refine GO_rdT rfl (wn_none rfl) rfl (fun w => (rd_indexS (j := i) rfl rfl rfl Try.underlying147 ts151 rfl (by omega) _ rfl)) ?_
     refine GO_rd rfl rfl (wn_none rfl) rfl hpS (fun w hp => (rd_loadN (L := itC Value.string (itAt hh i)) rfl rfl Try.underlying151 rfl ts151 rfl (fun j u hj => (Sl.row (hp.get 1 rfl)).elem (itC_len _) i j (itC_lt hj) (itAt_some (by omega)) hj))) ?_
     refine GO_rdT rfl (wn_none rfl) rfl (fun w => (rd_indexS (j := i) rfl rfl rfl Try.underlying147 ts151 rfl (by omega) _ rfl)) ?_
     refine GO_of_GL rfl ?_
     refine GL_storeR (i := 1) (wn_none rfl) rfl rfl rfl rfl ts151 rfl rfl (itC_one _) hp rfl rfl (by rw [flat_length (itC_len _)]; (try rw [List.length_set]); omega) (flat_set0 (itC_len _) hh i (itAt hh b) (by (try rw [List.length_set]); omega)) ?_
     intro w hp
     refine GL_nil ⟨fun h => absurd h (by decide), ?_⟩
     refine GO_of_GL rfl ?_
     refine GL_rd (wn_none rfl) rfl (rd_indexS (j := b) rfl rfl rfl Try.underlying147 ts151 rfl hbm _ rfl) (GL_nil ⟨fun h => absurd h (by decide), ?_⟩)
     refine GO_of_GL rfl ?_
     refine GL_storeR (i := 1) (wn_none rfl) rfl rfl rfl rfl ts151 rfl rfl (itC_one _) hp rfl rfl (by rw [flat_length (itC_len _)]; (try rw [List.length_set]); omega) (flat_set0 (itC_len _) _ b (itAt hh i) (by (try rw [List.length_set]); omega)) ?_
     intro w hp
     refine GL_nil ⟨fun h => absurd h (by decide), ?_⟩
     refine GO_nil ?_
     refine GW_region ?_
     refine GL_rd (v := .int _ _) (wn_none rfl) rfl (rd_move rfl rfl) ?_
     refine GL_rd (v := .int _ _) (wn_none rfl) rfl (rd_assign rfl rfl) ?_
     refine GL_nil ?_
     exact ihL0 (b, swapI hh i b) _ _ (by simp only []; omega) ⟨_, slots2 rfl rfl, hp, by omega, (swap_perm (by omega) (by omega)).trans hperm, hst.1⟩
  ·refine ⟨_, slots5 rfl rfl rfl rfl rfl, hp, Nat.zero_le _, best_first hh i⟩
 ·refine ⟨_, slots2 rfl rfl, hp, Nat.zero_le _, .refl _, hd0⟩

theorem ags_Take (gq : Nat) (sv : Value) (n m : Nat) (h : List (It ByteArray)) (F0 : List Nat) (M : List (It ByteArray)) (now : Int) (w0 : World) (hm : m ≤ 1000000) (hrep : Rep h M n) (hp0 : Hp w0 F0 w0 [cells gq 149 [sv, .int .i64 (n : Int)], .row 151 3 sv m (h.flatMap (itC Value.string))]) : Does Try.prog 99 #[.pointer (some ⟨gq, 0, none⟩), .int .i64 now] w0 fun v w' => ∃ sv2 h2, v = .tuple #[(if dueB M now then Value.string (headI M).wt else .string ⟨#[]⟩), .bool (dueB M now)] ∧ Rep h2 (leftI M now) n ∧ Hp w0 F0 w' [cells gq 149 [sv2, .int .i64 (n : Int)], .row 151 3 sv2 h2.length (h2.flatMap (itC Value.string))] := by
 obtain ⟨A, c, rfl⟩ := row_shape (hp0.get 1 rfl)
 have hlen := flat_len (itC_len _) (by decide) (row_len (hp0.get 1 rfl))
 have hmle := (Sl.row (hp0.get 1 rfl)).le
 refine does_of (l := [.pointer (some ⟨gq, 0, none⟩), .int .i64 now]) Try.func99 (by kernel_rfl) rfl Try.ntmps99 rfl rfl ?_
 have hp := hp0
 refine GW_seq ?_
 refine GW_region ?_
 refine GL_rd (v := .string _) (wn_none rfl) rfl (rd_assign rfl rfl) ?_
 refine GL_rd (v := .bool _) (wn_none rfl) rfl (rd_assign rfl rfl) ?_
 refine GL_nil ?_
 refine GW_seq ?_
 refine GW_region ?_
 refine GL_rd (v := .pointer (some ⟨_, _, none⟩)) (wn_none rfl) rfl (rd_move rfl rfl) ?_
 refine GL_call (wn_none rfl) rfl rfl (ags_Next gq _ _ _ h _ (hp.get 0 rfl) (Sl.row (hp.get 1 rfl))) rfl ?_
 rintro _ w ⟨rfl, hk⟩
 have hp := hp.comp hk
 refine GL_rd (v := .tuple _) (wn_none rfl) rfl (rd_move rfl rfl) ?_
 refine GL_rd (v := .int _ _) (wn_none rfl) rfl (rd_extract rfl rfl rfl) ?_
 refine GL_rd (v := _) (wn_none rfl) rfl (rd_extract rfl rfl rfl) ?_
 refine GL_rd (v := .bool _) (wn_none rfl) rfl (rd_extract rfl rfl rfl) ?_
 refine GL_rd (v := .int _ _) (wn_none rfl) rfl (rd_assign rfl rfl) ?_
 refine GL_rd (v := _) (wn_none rfl) rfl (rd_assign rfl rfl) ?_
 refine GL_rd (v := .bool _) (wn_none rfl) rfl (rd_assign rfl rfl) ?_
 refine GL_nil ?_
 refine GW_seq ?_
 refine GW_seq ?_
 refine GW_region ?_
 refine GL_rd (v := .bool _) (wn_none rfl) rfl (rd_move rfl rfl) ?_
 refine GL_rd (wn_none rfl) rfl (rd_not rfl rfl) ?_
 refine GL_rd (v := .bool _) (wn_none rfl) rfl (rd_move rfl rfl) ?_
 refine GL_split (t := 19) (b := _) rfl ?_ ?_
 ·intro hb; (try simp only [decide_eq_true_eq, decide_eq_false_iff_not, Bool.not_eq_true', Bool.not_eq_false', Bool.not_eq_eq_eq_not, Bool.not_true, Bool.not_false, Int.not_lt, Int.not_le] at hb)
  have hdue := hrep.no (now := now) (by have := hb; omega)
  refine GL_pass (nw_off rfl rfl rfl rfl rfl) rfl ?_
  refine GL_pass (nw_off rfl rfl rfl rfl rfl) rfl ?_
  refine GL_pass (nw_off rfl rfl rfl rfl rfl) rfl ?_
  refine GL_rd (v := .bool _) (wn_none rfl) rfl (rd_pickT rfl rfl rfl) ?_
  refine GL_nil ?_
  refine GW_true rfl ?_
  refine GW_seq ?_
  refine GW_region ?_
  refine GL_rd (v := .string _) (wn_none rfl) rfl (rd_assign rfl rfl) ?_
  refine GL_nil ?_
  refine GW_seq ?_
  refine GW_region ?_
  refine GL_rd (v := .string _) (wn_none rfl) rfl (rd_move rfl rfl) ?_
  refine GL_rd (v := .string _) (wn_none rfl) rfl (rd_assign rfl rfl) ?_
  refine GL_rd (v := .bool _) (wn_none rfl) rfl (rd_assign rfl rfl) ?_
  refine GL_nil ?_
  refine GW_ret ?_
  exact ⟨_, res2 Try.results99 (rv_tmp (v := .string _) rfl rfl) (rv_tmp (v := .bool _) rfl rfl), .slice A m c, h, by rw [hdue]; rfl, by rw [leftI, hdue]; exact hrep, by rw [hlen]; exact hp⟩
 ·intro hb; (try simp only [decide_eq_true_eq, decide_eq_false_iff_not, Bool.not_eq_true', Bool.not_eq_false', Bool.not_eq_eq_eq_not, Bool.not_true, Bool.not_false, Int.not_lt, Int.not_le] at hb)
  have hm0 : 0 < m := by have := hb; omega
  have hl0 := hrep.late (now := now) (by omega)
  refine GL_rd (v := .int _ _) (wn_on rfl rfl rfl rfl) rfl (rd_move rfl rfl) ?_
  refine GL_rd (v := .int _ _) (wn_on rfl rfl rfl rfl) rfl (rd_move rfl rfl) ?_
  refine GL_rd (wn_on rfl rfl rfl rfl) rfl (rd_bin rfl rfl rfl bo_gtr) ?_
  refine GL_rd (v := .bool _) (wn_none rfl) rfl (rd_pickF rfl rfl rfl) ?_
  refine GL_nil ?_
  refine GW_cond rfl (fun hb2 => ?_) (fun hb2 => ?_)
  ·(try simp only [decide_eq_true_eq, decide_eq_false_iff_not, Bool.not_eq_true', Bool.not_eq_false', Bool.not_eq_eq_eq_not, Bool.not_true, Bool.not_false, Int.not_lt, Int.not_le] at hb2)
   have hdue : dueB M now = false := by rw [hl0, decide_eq_false]; have := hb2; rw [if_neg (by omega)] at this; omega
   refine GW_seq ?_
   refine GW_region ?_
   refine GL_rd (v := .string _) (wn_none rfl) rfl (rd_assign rfl rfl) ?_
   refine GL_nil ?_
   refine GW_seq ?_
   refine GW_region ?_
   refine GL_rd (v := .string _) (wn_none rfl) rfl (rd_move rfl rfl) ?_
   refine GL_rd (v := .string _) (wn_none rfl) rfl (rd_assign rfl rfl) ?_
   refine GL_rd (v := .bool _) (wn_none rfl) rfl (rd_assign rfl rfl) ?_
   refine GL_nil ?_
   refine GW_ret ?_
   exact ⟨_, res2 Try.results99 (rv_tmp (v := .string _) rfl rfl) (rv_tmp (v := .bool _) rfl rfl), .slice A m c, h, by rw [hdue]; rfl, by rw [leftI, hdue]; exact hrep, by rw [hlen]; exact hp⟩
  ·(try simp only [decide_eq_true_eq, decide_eq_false_iff_not, Bool.not_eq_true', Bool.not_eq_false', Bool.not_eq_eq_eq_not, Bool.not_true, Bool.not_false, Int.not_lt, Int.not_le] at hb2)
   have hdue : dueB M now = true := by rw [hl0, decide_eq_true]; have := hb2; rw [if_neg (by omega)] at this; omega
   have hhd := hrep.head0 (by omega)
   obtain ⟨gR, cap, hq, hcap⟩ := row_addr (hp.get 1 rfl) (by omega)
   injection hq with h1 h2 h3
   subst h1 h3
   refine GW_skip ?_
   refine GW_seq ?_
   refine GW_region ?_
   refine GL_rd (v := .pointer (some ⟨_, _, none⟩)) (wn_none rfl) rfl (rd_move rfl rfl) ?_
   refine GL_rd (wn_none rfl) rfl (rd_nilCheck rfl rfl) ?_
   refine GL_rd (wn_none rfl) rfl (rd_field rfl rfl fa149_0 _ rfl) ?_
   refine GL_rd (v := .slice _ _ _) (wn_none rfl) rfl (rd_load rfl rfl Try.underlying147 rfl ((cell_of_cells (hp.get 0 rfl) _).trans rfl)) ?_
   refine GL_rd (wn_none rfl) rfl (rd_len rfl rfl Try.underlying147) ?_
   refine GL_rd (wn_none rfl) rfl (rd_bin rfl rfl rfl (bo_sub64 (by omega))) ?_
   refine GL_rd (v := .int _ _) (wn_none rfl) rfl (rd_assign rfl rfl) ?_
   refine GL_nil ?_
   refine GW_seq ?_
   refine GW_drawnK 12 (.one 0 true (.one 1 true (.one 2 true (.one 3 true (.one 4 true (.one 5 true (.one 6 true (.one 7 true (.one 8 true (.one 9 true (.one 10 true (.one 11 true (.one 12 false .nil))))))))))))) mixed (by kernel_rfl) hp (fun _ h => h) fun w hp => ?_
   have hpS := hp
   refine GO_rdT (v := .pointer (some ⟨_, _, none⟩)) rfl (wn_none rfl) rfl (fun w => (rd_move rfl rfl)) ?_
   refine GO_rdT rfl (wn_none rfl) rfl (fun w => (rd_nilCheck rfl rfl)) ?_
   refine GO_rdT rfl (wn_none rfl) rfl (fun w => (rd_field rfl rfl fa149_0 _ rfl)) ?_
   refine GO_rd (v := .slice _ _ _) rfl rfl (wn_none rfl) rfl hpS (fun w hp => (rd_load rfl rfl Try.underlying147 rfl ((cell_of_cells (hp.get 0 rfl) _).trans rfl))) ?_
   refine GO_rdT (v := .pointer (some ⟨_, _, none⟩)) rfl (wn_none rfl) rfl (fun w => (rd_move rfl rfl)) ?_
   refine GO_rdT rfl (wn_none rfl) rfl (fun w => (rd_nilCheck rfl rfl)) ?_
   refine GO_rdT rfl (wn_none rfl) rfl (fun w => (rd_field rfl rfl fa149_0 _ rfl)) ?_
   refine GO_rd (v := .slice _ _ _) rfl rfl (wn_none rfl) rfl hpS (fun w hp => (rd_load rfl rfl Try.underlying147 rfl ((cell_of_cells (hp.get 0 rfl) _).trans rfl))) ?_
   refine GO_rdT (v := .int _ _) rfl (wn_none rfl) rfl (fun w => (rd_move rfl rfl)) ?_
   refine GO_rdT rfl (wn_none rfl) rfl (fun w => (rd_indexS (j := (m - 1)) rfl rfl rfl Try.underlying147 ts151 (by omega) (by omega) _ rfl)) ?_
   refine GO_rd rfl rfl (wn_none rfl) rfl hpS (fun w hp => (rd_loadN (L := itC Value.string (itAt h (m - 1))) rfl rfl Try.underlying151 rfl ts151 rfl (fun j u hj => (Sl.row (hp.get 1 rfl)).elem (itC_len _) (m - 1) j (itC_lt hj) (itAt_some (by omega)) hj))) ?_
   refine GO_rdT rfl (wn_none rfl) rfl (fun w => (rd_indexS (j := 0) rfl rfl rfl Try.underlying147 ts151 rfl (by omega) _ rfl)) ?_
   refine GO_of_GL rfl ?_
   refine GL_storeR (i := 1) (wn_none rfl) rfl rfl rfl rfl ts151 rfl rfl (itC_one _) hp rfl rfl (by rw [flat_length (itC_len _)]; (try rw [List.length_set]); omega) (flat_set0 (itC_len _) h 0 (itAt h (m - 1)) (by (try rw [List.length_set]); omega)) ?_
   intro w hp
   refine GL_nil ⟨fun h => absurd h (by decide), ?_⟩
   refine GO_nil ?_
   refine GW_seq ?_
   refine GW_region ?_
   refine GL_rd (v := .pointer (some ⟨_, _, none⟩)) (wn_none rfl) rfl (rd_move rfl rfl) ?_
   refine GL_rd (v := .pointer (some ⟨_, _, none⟩)) (wn_none rfl) rfl (rd_move rfl rfl) ?_
   refine GL_rd (wn_none rfl) rfl (rd_nilCheck rfl rfl) ?_
   refine GL_rd (wn_none rfl) rfl (rd_field rfl rfl fa149_0 _ rfl) ?_
   refine GL_rd (v := .slice _ _ _) (wn_none rfl) rfl (rd_load rfl rfl Try.underlying147 rfl ((cell_of_cells (hp.get 0 rfl) _).trans rfl)) ?_
   refine GL_rd (v := .int _ _) (wn_none rfl) rfl (rd_move rfl rfl) ?_
   refine GL_rd (wn_none rfl) rfl (rd_sliceE (lo := 0) (hi := (m - 1)) rfl rfl Try.underlying147 ts151 at_none (at_some rfl (by omega)) (by omega) (by omega) (addr_zero _ _ _) (Nat.sub_zero _) (Nat.sub_zero _)) ?_
   refine GL_rd (wn_none rfl) rfl (rd_nilCheck rfl rfl) ?_
   refine GL_rd (wn_none rfl) rfl (rd_field rfl rfl fa149_0 _ rfl) ?_
   refine GL_store (i := 0) (wn_none rfl) rfl rfl rfl rfl ts147 rfl rfl (one1 rfl) hp rfl (by first | exact Nat.le_of_ble_eq_true rfl | simp [bys_length, *]) rfl ?_
   intro w hp
   refine GL_nil ?_
   refine GW_seq ?_
   refine GW_region ?_
   have hp := ((hp.front 0 rfl).front 1 rfl)
   have hp := hp.swap (r' := .row 151 3 (.slice (some ⟨gR, 0, none⟩) (m - 1) c) (m - 1) ((popI h).flatMap (itC Value.string))) rfl (by have q := row_less (hp.get 0 rfl) (show m - 1 ≤ m by omega) (by simp); rw [flat_take (itC_len _), show (h.set 0 (itAt h (m - 1))).take (m - 1) = popI h by rw [popI, hlen]] at q; exact q)
   refine GL_rd (v := .pointer (some ⟨_, _, none⟩)) (wn_none rfl) rfl (rd_move rfl rfl) ?_
   have hp := ((hp.front 0 rfl).front 1 rfl)
   refine GL_call (wn_none rfl) rfl rfl (ags_sink gq _ n (m - 1) (popI h) _ _ (by omega) (pop_down hrep.heap) (hp.ownsT 2)) rfl ?_
   rintro _ w ⟨h2, rfl, hperm2, hheap2, hk⟩
   have hp := hp.turnsT 2 hk
   refine GL_nil ?_
   refine GW_seq ?_
   refine GW_region ?_
   refine GL_rd (v := _) (wn_none rfl) rfl (rd_move rfl rfl) ?_
   refine GL_rd (v := _) (wn_none rfl) rfl (rd_assign rfl rfl) ?_
   refine GL_rd (v := .bool _) (wn_none rfl) rfl (rd_assign rfl rfl) ?_
   refine GL_nil ?_
   refine GW_ret ?_
   have hl2 : h2.length = m - 1 := by rw [hperm2.length_eq, popI_length, hlen]
   have ev : (if m = 0 then .string ⟨#[]⟩ else Value.string (itAt h 0).wt) = Value.string (headI M).wt := by rw [if_neg (show ¬ m = 0 by omega), hhd]
   exact ⟨_, res2 Try.results99 (rv_tmp (v := _) rfl rfl) (rv_tmp (v := .bool _) rfl rfl), _, h2, by rw [hdue, if_pos rfl, ← ev]; rfl, hrep.take hdue hperm2 hheap2, by rw [hl2]; exact hp⟩

theorem ags_Due (gq : Nat) (sv : Value) (n m : Nat) (h : List (It ByteArray)) (F0 : List Nat) (M : List (It ByteArray)) (now : Int) (w0 : World) (hm : m ≤ 1000000) (hrep : Rep h M n) (hp0 : Hp w0 F0 w0 [cells gq 149 [sv, .int .i64 (n : Int)], .row 151 3 sv m (h.flatMap (itC Value.string))]) : Does Try.prog 25 #[.pointer (some ⟨gq, 0, none⟩), .int .i64 now] w0 fun v w' => ∃ sv2 h2, Rep h2 (M.dropWhile (fun y => decide (y.at_ ≤ now))) n ∧ Hp w0 F0 w' [.row 9 1 v (M.takeWhile (fun y => decide (y.at_ ≤ now))).length ((M.takeWhile (fun y => decide (y.at_ ≤ now))).map fun x => Value.string x.wt), cells gq 149 [sv2, .int .i64 (n : Int)], .row 151 3 sv2 h2.length (h2.flatMap (itC Value.string))] := by
 obtain ⟨A, c, rfl⟩ := row_shape (hp0.get 1 rfl)
 have hlen := flat_len (itC_len _) (by decide) (row_len (hp0.get 1 rfl))
 have hmle := (Sl.row (hp0.get 1 rfl)).le
 refine does_of (l := [.pointer (some ⟨gq, 0, none⟩), .int .i64 now]) Try.func25 (by kernel_rfl) rfl Try.ntmps25 rfl rfl ?_
 have hp := hp0
 refine GW_seq ?_
 refine GW_region ?_
 refine GL_rd (v := .slice _ _ _) (wn_none rfl) rfl (rd_assign rfl rfl) ?_
 refine GL_nil ?_
 refine GW_seq ?_
 refine GW_region ?_
 refine GL_rd (v := .slice _ _ _) (wn_none rfl) rfl (rd_assign rfl rfl) ?_
 refine GL_nil ?_
 refine GW_block ?_
 refine GW_loop ?_
 refine Lp_ind (α := List (It ByteArray) × List (It ByteArray) × List (It ByteArray) × Value × Value) (fun a_0 f_0 w' => match a_0 with | (D, N, hh, sv2, v) => ∃ fz, f_0 = (upd (upd (upd fz 0 (.pointer (some ⟨gq, 0, none⟩))) 1 (.int .i64 now)) 5 (v)) ∧ Hp w0 F0 w' [.row 9 1 v D.length (D.map fun x => Value.string x.wt), cells gq 149 [sv2, .int .i64 (n : Int)], .row 151 3 sv2 hh.length (hh.flatMap (itC Value.string))] ∧ (D ++ N = M) ∧ (∀ x ∈ D, x.at_ ≤ now) ∧ (Rep hh N n)) (fun a_0 => match a_0 with | (D, N, hh, sv2, v) => N.length) ?_ ([], M, h, .slice A m c, .slice none 0 0) _ _ ?_
 ·rintro ⟨D, N, hh, sv2, v⟩ f wz ⟨fz, rfl, hp, hDN, hD, hrp⟩ ihL0
  have hNl := congrArg List.length hDN
  rw [List.length_append] at hNl
  have hML := hrep.len
  have hhN := hrp.len
  refine Lp_round ?_
  refine GW_block ?_
  refine GW_seq ?_
  refine GW_region ?_
  refine GL_rd (v := .pointer (some ⟨_, _, none⟩)) (wn_none rfl) rfl (rd_move rfl rfl) ?_
  refine GL_rd (v := .int _ _) (wn_none rfl) rfl (rd_move rfl rfl) ?_
  have hp := ((hp.front 2 rfl).front 2 rfl)
  refine GL_call (wn_none rfl) rfl rfl (ags_Take gq _ n _ hh _ N now _ (by omega) hrp (hp.ownsT 2)) rfl ?_
  rintro _ w ⟨sv3, h3, rfl, hrp3, hk⟩
  have hp := hp.turnsT 2 hk
  refine GL_rd (v := .tuple _) (wn_none rfl) rfl (rd_move rfl rfl) ?_
  refine GL_rd (v := _) (wn_none rfl) rfl (rd_extract rfl rfl rfl) ?_
  refine GL_rd (v := .bool _) (wn_none rfl) rfl (rd_extract rfl rfl rfl) ?_
  refine GL_rd (v := _) (wn_none rfl) rfl (rd_assign rfl rfl) ?_
  refine GL_rd (v := .bool _) (wn_none rfl) rfl (rd_assign rfl rfl) ?_
  refine GL_nil ?_
  refine GW_seq ?_
  refine GW_seq ?_
  refine GW_region ?_
  refine GL_rd (v := .bool _) (wn_none rfl) rfl (rd_move rfl rfl) ?_
  refine GL_rd (wn_none rfl) rfl (rd_not rfl rfl) ?_
  refine GL_nil ?_
  refine GW_cond rfl (fun hb => ?_) (fun hb => ?_)
  ·(try simp only [decide_eq_true_eq, decide_eq_false_iff_not, Bool.not_eq_true', Bool.not_eq_false', Bool.not_eq_eq_eq_not, Bool.not_true, Bool.not_false, Int.not_lt, Int.not_le] at hb)
   have hnd : dueB N now = false := hb
   have hsp := due_split hDN hD hnd
   have hN3 : leftI N now = N := by rw [leftI, hnd]; rfl
   rw [hN3] at hrp3
   refine GW_seq ?_
   refine GW_region ?_
   refine GL_rd (v := v) (wn_none rfl) rfl (rd_move rfl rfl) ?_
   refine GL_rd (v := v) (wn_none rfl) rfl (rd_assign rfl rfl) ?_
   refine GL_nil ?_
   refine GW_ret ?_
   rw [← hsp.1, ← hsp.2]
   refine ⟨_, res1 Try.results25 (rv_tmp (v := v) rfl rfl), sv3, h3, hrp3, ?_⟩
   have hp := ((((hp.front 1 rfl).front 1 rfl).front 2 rfl).take 3)
   exact hp
  ·(try simp only [decide_eq_true_eq, decide_eq_false_iff_not, Bool.not_eq_true', Bool.not_eq_false', Bool.not_eq_eq_eq_not, Bool.not_true, Bool.not_false, Int.not_lt, Int.not_le] at hb)
   have hyd : dueB N now = true := hb
   have hdc := due_cons hyd
   rw [if_pos hyd]
   refine GW_skip ?_
   refine GW_region ?_
   refine GL_rd (v := v) (wn_none rfl) rfl (rd_move rfl rfl) ?_
   refine GL_rd (v := _) (wn_none rfl) rfl (rd_move rfl rfl) ?_
   refine GL_lit (L := [Value.string (headI N).wt]) (wn_none rfl) rfl rfl Try.underlying43 ts9 tz9 rfl (by kernel_rfl) rfl rfl hp ?_
   intro g w hp
   refine GL_append (i := 3) (wn_none rfl) rfl rfl rfl rfl Try.underlying43 ti9 rfl (by decide) hp rfl (Sl.row (hp.get 0 rfl)) (one1 (OneF.one (f := Value.string) _)) (by omega) (by omega) ?_
   intro v w hp
   refine GL_rd (v := v) (wn_none rfl) rfl (rd_assign rfl rfl) ?_
   refine GL_nil ?_
   have hp := ((((hp.front 2 rfl).front 2 rfl).front 3 rfl).take 3)
   have hp : Hp w0 F0 w [.row 9 1 v (D ++ [headI N]).length ((D ++ [headI N]).map fun x => Value.string x.wt), cells gq 149 [sv3, .int .i64 (n : Int)], .row 151 3 sv3 h3.length (h3.flatMap (itC Value.string))] := by rw [List.length_append, List.map_append]; exact hp
   exact ihL0 (D ++ [headI N], leftI N now, h3, sv3, v) _ _ (by have := congrArg List.length hdc.1; simp only [List.length_cons] at this ⊢; omega) ⟨_, slots3 rfl rfl rfl, hp, by rw [List.append_assoc, List.singleton_append, ← hdc.1]; exact hDN, fun x hx => by rcases List.mem_append.1 hx with hx | hx; exact hD x hx; rw [List.mem_singleton] at hx; subst hx; exact hdc.2, hrp3⟩
 ·have hp := hp.nilRow 9 1
  have hp : Hp w0 F0 w0 [.row 9 1 (.slice none 0 0) ([] : List (It ByteArray)).length (([] : List (It ByteArray)).map fun x => Value.string x.wt), cells gq 149 [(.slice A m c), .int .i64 (n : Int)], .row 151 3 (.slice A m c) h.length (h.flatMap (itC Value.string))] := by rw [hlen]; exact hp
  refine ⟨_, slots3 rfl rfl rfl, hp, rfl, by simp, hrep⟩

end Go.Proofs.Ytjbbknjhgdmdkaa
