/- Walks of functions of the program. -/
import Derived.Test.YtpagpmioopaciaaQFQuo
set_option linter.unusedVariables false
set_option linter.unusedSimpArgs false
namespace Go.Proofs.Ytpagpmioopaciaa
open Go.Mo Go.RowKit
set_option maxHeartbeats 1000000 in
theorem q_Need (c a : Int) (tv : Value) (L : List (Value × List UInt8)) (w0 : World) (hL : Sl w0 tv 1 L.length (L.map Prod.fst)) (hLs : ∀ x ∈ L, Sl w0 x.1 1 x.2.length (bys x.2)) (hbd : L.length ≤ 65536 ∧ ∀ x ∈ L, x.2.length ≤ 65536) : Does Try.prog 39 #[.int .i64 c, .int .i64 a, tv] w0 fun v w' => v = .agg ⟨rmC (needR c a (L.map fun x => x.2.length))⟩ ∧ Hp w0 [] w' [] := by
 obtain ⟨AL, cL, rfl⟩ := sl_shape hL
 have hLle := hL.le
 have hbl : ∀ x ∈ (L.map fun x => x.2.length), x ≤ 65536 := by intro x hx; obtain ⟨y, hy, rfl⟩ := List.mem_map.1 hx; exact hbd.2 y hy
 have hll : (L.map fun x => x.2.length).length = L.length := List.length_map _
 refine does_of (l := [.int .i64 c, .int .i64 a, .slice AL L.length cL]) Try.func39 (by kernel_rfl) rfl Try.ntmps39 rfl rfl (by kernel_rfl) ?_
 have hp := Hp.refl w0 []
 refine GW_seq ?_
 refine GW_region ?_
 refine GL_alloc (wn_none rfl) rfl rfl tz93 rfl hp ?_
 intro g w hp
 refine GL_nil ?_
 refine GW_seq ?_
 refine GW_region ?_
 refine GL_rd (v := .slice _ _ _) (wn_none rfl) rfl (rd_move rfl rfl) ?_
 refine GL_rd (wn_none rfl) rfl (rd_len rfl rfl Try.underlying32) ?_
 refine GL_rd (v := .int _ _) (wn_none rfl) rfl (rd_move rfl rfl) ?_
 refine GL_rd (wn_none rfl) rfl (rd_max rfl rfl rfl) ?_
 refine GL_rd (v := .int _ _) (wn_none rfl) rfl (rd_move rfl rfl) ?_
 refine GL_rd (wn_none rfl) rfl (rd_max rfl rfl rfl) ?_
 refine GL_rd (wn_none rfl) rfl (rd_buildS (L := [.int .i64 0, .int .i64 (L.length : Int), .int .i64 (max c 0), .int .i64 (max a 0), .int .i64 0]) rfl tz93 pl93 (by kernel_rfl)) ?_
 refine GL_alloc (wn_none rfl) rfl rfl tz93 rfl hp ?_
 intro g2 w hp
 refine GL_store (i := 0) (wn_none rfl) rfl rfl rfl rfl ts93 rfl rfl (oneC rfl (oneC rfl (oneC rfl (oneC rfl (oneC rfl one0))))) hp rfl (by first | exact Nat.le_of_ble_eq_true rfl | simp [bys_length, *]) rfl ?_
 intro w hp
 refine GL_nil ?_
 refine GW_seq ?_
 refine GW_seq ?_
 refine GW_region ?_
 refine GL_rd (v := .slice _ _ _) (wn_none rfl) rfl (rd_move rfl rfl) ?_
 refine GL_rd (wn_none rfl) rfl (rd_len rfl rfl Try.underlying32) ?_
 refine GL_rd (v := .int _ _) (wn_none rfl) rfl (rd_move rfl rfl) ?_
 refine GL_nil ?_
 refine GW_block ?_
 refine GW_loop ?_
 refine Lp_ind (α := Nat × Option Addr) (fun a_0 f_0 w' => match a_0 with | (i, AL) => ∃ fz, f_0 = (upd (upd (upd (upd (upd fz 17 (.slice AL L.length cL)) 18 (.int .i64 (L.length : Int))) 19 (.int .i64 (i : Int))) 6 (.pointer (some ⟨g, 0, none⟩))) 7 (.pointer (some ⟨g2, 0, none⟩))) ∧ Hp w0 [] w' [cells g 93 [.int .i64 0, .int .i64 0, .int .i64 0, .int .i64 0, .int .i64 0], cells g2 93 [.int .i64 (sumK ((L.map fun x => x.2.length).take i)), .int .i64 (L.length : Int), .int .i64 (max c 0), .int .i64 (max a 0), .int .i64 0]] ∧ (i ≤ L.length) ∧ (Sl w0 (.slice AL L.length cL) 1 L.length (L.map Prod.fst))) (fun a_0 => match a_0 with | (i, AL) => L.length - i) ?_ (0, AL) _ _ ?_
 ·rintro ⟨i, AL⟩ f wz ⟨fz, rfl, hp, hi0, hL⟩ ihL0
  refine Lp_round ?_
  refine GW_seq ?_
  refine GW_region ?_
  refine GL_rd (wn_none rfl) rfl (rd_bin rfl rfl rfl bo_lss) ?_
  refine GL_nil ?_
  refine GW_seq ?_
  refine GW_cond rfl (fun hb => ?_) (fun hb => ?_)
  ·(try simp only [decide_eq_true_eq, decide_eq_false_iff_not, Bool.not_eq_true', Bool.not_eq_false', Bool.not_eq_eq_eq_not, Bool.not_true, Bool.not_false, Int.not_lt, Int.not_le] at hb)
   obtain ⟨gL, bL, rfl⟩ := hL.addr (by rw [List.length_map]; omega)
   have hxm := getD_in (l := L) (i := i) (by omega)
   obtain ⟨Ax, cx, hsh⟩ := sl_shape (hLs _ hxm)
   have hxb := hbd.2 _ hxm
   have hsk := sumK_le hbl i (by omega)
   have hs2 := sumK_takeL (L := L) (i := i) (by omega)
   refine GW_skip ?_
   refine GW_seq ?_
   refine GW_block ?_
   refine GW_seq ?_
   refine GW_region ?_
   refine GL_rd (wn_none rfl) rfl (rd_indexS (j := i) rfl rfl rfl Try.underlying32 ts33 rfl (by omega) _ rfl) ?_
   refine GL_rd (v := .slice _ _ _) (wn_none rfl) rfl (rd_load rfl rfl Try.underlying33 rfl ((hL.keep hp.mod).get _ _ (by rw [Nat.mul_one]; exact (fst_at (L := L) (i := i) (by omega)).trans (congrArg some hsh)))) ?_
   refine GL_rd (v := .slice _ _ _) (wn_none rfl) rfl (rd_assign rfl rfl) ?_
   refine GL_nil ?_
   refine GW_drawnK 7 (.one 0 true (.one 1 true (.one 2 true (.one 3 true (.one 4 false (.one 5 true (.one 6 true (.one 7 false .nil)))))))) mixed (by kernel_rfl) hp (fun _ h => (h.sub (.cons _ (.cons_cons _ .slnil)))) fun w hp => ?_
   have hpS := (hp.sub (.cons _ (.cons_cons _ .slnil)))
   refine GO_rdT rfl (wn_none rfl) rfl (fun w => (rd_field rfl rfl fa93_0 _ rfl)) ?_
   refine GO_rd rfl rfl (wn_none rfl) rfl hpS (fun w hp => (rd_load rfl rfl Try.underlying3 rfl ((cell_of_cells (hp.get 0 rfl) _).trans rfl))) ?_
   refine GO_rdT (v := .slice _ _ _) rfl (wn_none rfl) rfl (fun w => (rd_move rfl rfl)) ?_
   refine GO_rd rfl rfl (wn_none rfl) rfl hpS (fun w hp => (rd_len rfl rfl Try.underlying33)) ?_
   refine GO_of_GL rfl ?_
   refine GL_call (wn_none rfl) rfl rfl (chk_Count ((L.getD i default).2.length : Int) _ (by omega)) rfl ?_
   rintro _ w ⟨rfl, hk⟩
   have hp := hp.comp hk
   have hpS2 := (hp.sub (.cons _ (.cons_cons _ .slnil)))
   refine GL_nil ⟨fun _ => hpS2, ?_⟩
   refine GO_rd rfl rfl (wn_none rfl) rfl hpS2 (fun w hp => (rd_bin rfl rfl rfl (bo_int (q := sumK ((L.map fun x => x.2.length).take (i + 1))) (bo_add64 (by rw [cntZ_eq]; have := countI_in ((L.getD i default).2.length); omega)) (by rw [cntZ_eq]; exact hs2.symm)))) ?_
   refine GO_rdT rfl (wn_none rfl) rfl (fun w => (rd_field rfl rfl fa93_0 _ rfl)) ?_
   refine GO_of_GL rfl ?_
   refine GL_store (i := 1) (wn_none rfl) rfl rfl rfl rfl ts3 rfl rfl (one1 rfl) hp rfl (by first | exact Nat.le_of_ble_eq_true rfl | simp [bys_length, *]) rfl ?_
   intro w hp
   refine GL_nil ⟨fun h => absurd h (by decide), ?_⟩
   refine GO_nil ?_
   refine GW_region ?_
   refine GL_rd (wn_none rfl) rfl (rd_bin rfl rfl rfl (bo_add64 (by omega))) ?_
   refine GL_rd (v := .int _ _) (wn_none rfl) rfl (rd_move rfl rfl) ?_
   refine GL_nil ?_
   have hp := (((hp.front 1 rfl).front 1 rfl).take 2)
   exact ihL0 (i + 1, _) _ _ (by simp only []; omega) ⟨_, slots5 rfl rfl rfl rfl rfl, hp, by omega, hL⟩
  ·(try simp only [decide_eq_true_eq, decide_eq_false_iff_not, Bool.not_eq_true', Bool.not_eq_false', Bool.not_eq_eq_eq_not, Bool.not_true, Bool.not_false, Int.not_lt, Int.not_le] at hb)
   have hil : i = L.length := by omega
   rw [hil, List.take_of_length_le (by rw [hll]; exact Nat.le_refl _)] at hp
   refine GW_exit ?_
   refine GW_seq ?_
   refine GW_region ?_
   refine GL_rd (wn_none rfl) rfl (rd_loadC rfl rfl Try.underlying93 rfl ts93 (hp.get 1 rfl) (by first | (rw [bys_length]; first | exact a32_len _) | rfl | simp [bys_length, *])) ?_
   refine GL_store (i := 0) (wn_none rfl) rfl rfl rfl rfl ts93 rfl rfl (oneC rfl (oneC rfl (oneC rfl (oneC rfl (oneC rfl one0))))) hp rfl (by first | exact Nat.le_of_ble_eq_true rfl | simp [bys_length, *]) rfl ?_
   intro w hp
   refine GL_nil ?_
   refine GW_ret ?_
   exact ⟨_, res1 Try.results39 (rv_cell rfl rfl Try.underlying93 rfl ts93 rfl (hp.get 0 rfl)), by rw [needR, hll]; rfl, hp.mods⟩
 ·have hp := (((hp.front 0 rfl).front 1 rfl).take 2)
  refine ⟨_, slots5 rfl rfl rfl rfl rfl, hp, Nat.zero_le _, hL⟩
theorem q_Less (a b : Rm) (w0 : World) : Does Try.prog 40 #[.agg ⟨rmC a⟩, .agg ⟨rmC b⟩] w0 fun v w' => v = .bool (lessR a b) ∧ Hp w0 [] w' [] := by
 refine does_of (l := [.agg ⟨rmC a⟩, .agg ⟨rmC b⟩]) Try.func40 (by kernel_rfl) rfl Try.ntmps40 rfl rfl (by kernel_rfl) ?_
 have hp := Hp.refl w0 []
 refine GW_seq ?_
 refine GW_region ?_
 refine GL_box (wn_none rfl) rfl rfl rfl rfl hp ?_
 intro g w hp
 refine GL_box (wn_none rfl) rfl rfl rfl rfl hp ?_
 intro g2 w hp
 refine GL_rd (v := .bool _) (wn_none rfl) rfl (rd_assign rfl rfl) ?_
 refine GL_nil ?_
 refine GW_seq ?_
 refine GW_region ?_
 refine GL_rd (wn_none rfl) rfl (rd_field rfl rfl fa93_0 _ rfl) ?_
 refine GL_rd (wn_none rfl) rfl (rd_load rfl rfl Try.underlying3 rfl ((cell_of_cells (hp.get 1 rfl) _).trans rfl)) ?_
 refine GL_rd (wn_none rfl) rfl (rd_field rfl rfl fa93_0 _ rfl) ?_
 refine GL_rd (wn_none rfl) rfl (rd_load rfl rfl Try.underlying3 rfl ((cell_of_cells (hp.get 0 rfl) _).trans rfl)) ?_
 refine GL_rd (wn_none rfl) rfl (rd_bin rfl rfl rfl bo_leq) ?_
 refine GL_rd (v := .bool _) (wn_none rfl) rfl (rd_move rfl rfl) ?_
 refine GL_split (t := 10) (b := _) rfl ?_ ?_
 ·intro hb; (try simp only [decide_eq_true_eq, decide_eq_false_iff_not, Bool.not_eq_true', Bool.not_eq_false', Bool.not_eq_eq_eq_not, Bool.not_true, Bool.not_false, Int.not_lt, Int.not_le] at hb)
  have h1 := hb
  refine GL_rd (wn_on rfl rfl rfl rfl) rfl (rd_field rfl rfl fa93_1 _ rfl) ?_
  refine GL_rd (wn_on rfl rfl rfl rfl) rfl (rd_load rfl rfl Try.underlying3 rfl ((cell_of_cells (hp.get 1 rfl) _).trans rfl)) ?_
  refine GL_rd (wn_on rfl rfl rfl rfl) rfl (rd_field rfl rfl fa93_1 _ rfl) ?_
  refine GL_rd (wn_on rfl rfl rfl rfl) rfl (rd_load rfl rfl Try.underlying3 rfl ((cell_of_cells (hp.get 0 rfl) _).trans rfl)) ?_
  refine GL_rd (wn_on rfl rfl rfl rfl) rfl (rd_bin rfl rfl rfl bo_leq) ?_
  refine GL_rd (v := .bool _) (wn_none rfl) rfl (rd_pickT rfl rfl rfl) ?_
  refine GL_rd (v := .bool _) (wn_none rfl) rfl (rd_move rfl rfl) ?_
  refine GL_split (t := 17) (b := _) rfl ?_ ?_
  ·intro hb2; (try simp only [decide_eq_true_eq, decide_eq_false_iff_not, Bool.not_eq_true', Bool.not_eq_false', Bool.not_eq_eq_eq_not, Bool.not_true, Bool.not_false, Int.not_lt, Int.not_le] at hb2)
   have h2 := hb2
   refine GL_rd (wn_on rfl rfl rfl rfl) rfl (rd_field rfl rfl fa93_2 _ rfl) ?_
   refine GL_rd (wn_on rfl rfl rfl rfl) rfl (rd_load rfl rfl Try.underlying3 rfl ((cell_of_cells (hp.get 1 rfl) _).trans rfl)) ?_
   refine GL_rd (wn_on rfl rfl rfl rfl) rfl (rd_field rfl rfl fa93_2 _ rfl) ?_
   refine GL_rd (wn_on rfl rfl rfl rfl) rfl (rd_load rfl rfl Try.underlying3 rfl ((cell_of_cells (hp.get 0 rfl) _).trans rfl)) ?_
   refine GL_rd (wn_on rfl rfl rfl rfl) rfl (rd_bin rfl rfl rfl bo_leq) ?_
   refine GL_rd (v := .bool _) (wn_none rfl) rfl (rd_pickT rfl rfl rfl) ?_
   refine GL_rd (v := .bool _) (wn_none rfl) rfl (rd_move rfl rfl) ?_
   refine GL_split (t := 24) (b := _) rfl ?_ ?_
   ·intro hb3; (try simp only [decide_eq_true_eq, decide_eq_false_iff_not, Bool.not_eq_true', Bool.not_eq_false', Bool.not_eq_eq_eq_not, Bool.not_true, Bool.not_false, Int.not_lt, Int.not_le] at hb3)
    have h3 := hb3
    refine GL_rd (wn_on rfl rfl rfl rfl) rfl (rd_field rfl rfl fa93_3 _ rfl) ?_
    refine GL_rd (wn_on rfl rfl rfl rfl) rfl (rd_load rfl rfl Try.underlying3 rfl ((cell_of_cells (hp.get 1 rfl) _).trans rfl)) ?_
    refine GL_rd (wn_on rfl rfl rfl rfl) rfl (rd_field rfl rfl fa93_3 _ rfl) ?_
    refine GL_rd (wn_on rfl rfl rfl rfl) rfl (rd_load rfl rfl Try.underlying3 rfl ((cell_of_cells (hp.get 0 rfl) _).trans rfl)) ?_
    refine GL_rd (wn_on rfl rfl rfl rfl) rfl (rd_bin rfl rfl rfl bo_leq) ?_
    refine GL_rd (v := .bool _) (wn_none rfl) rfl (rd_pickT rfl rfl rfl) ?_
    refine GL_rd (v := .bool _) (wn_none rfl) rfl (rd_assign rfl rfl) ?_
    refine GL_nil ?_
    refine GW_ret ?_
    exact ⟨_, res1 Try.results40 (rv_tmp (v := .bool _) rfl rfl), by rw [lessR, decide_eq_true h1, decide_eq_true h2, decide_eq_true h3]; rfl, hp.mods⟩
   ·intro hb3; (try simp only [decide_eq_true_eq, decide_eq_false_iff_not, Bool.not_eq_true', Bool.not_eq_false', Bool.not_eq_eq_eq_not, Bool.not_true, Bool.not_false, Int.not_lt, Int.not_le] at hb3)
    have h3 : ¬ a.cl ≤ b.cl := by have := hb3; omega
    refine GL_pass (nw_off rfl rfl rfl rfl rfl) rfl ?_
    refine GL_pass (nw_off rfl rfl rfl rfl rfl) rfl ?_
    refine GL_pass (nw_off rfl rfl rfl rfl rfl) rfl ?_
    refine GL_pass (nw_off rfl rfl rfl rfl rfl) rfl ?_
    refine GL_pass (nw_off rfl rfl rfl rfl rfl) rfl ?_
    refine GL_rd (v := .bool _) (wn_none rfl) rfl (rd_pickF rfl rfl rfl) ?_
    refine GL_rd (v := .bool _) (wn_none rfl) rfl (rd_assign rfl rfl) ?_
    refine GL_nil ?_
    refine GW_ret ?_
    exact ⟨_, res1 Try.results40 (rv_tmp (v := .bool _) rfl rfl), by rw [lessR, decide_eq_true h1, decide_eq_true h2, decide_eq_false h3]; rfl, hp.mods⟩
  ·intro hb2; (try simp only [decide_eq_true_eq, decide_eq_false_iff_not, Bool.not_eq_true', Bool.not_eq_false', Bool.not_eq_eq_eq_not, Bool.not_true, Bool.not_false, Int.not_lt, Int.not_le] at hb2)
   have h2 : ¬ a.tx ≤ b.tx := by have := hb2; omega
   refine GL_pass (nw_off rfl rfl rfl rfl rfl) rfl ?_
   refine GL_pass (nw_off rfl rfl rfl rfl rfl) rfl ?_
   refine GL_pass (nw_off rfl rfl rfl rfl rfl) rfl ?_
   refine GL_pass (nw_off rfl rfl rfl rfl rfl) rfl ?_
   refine GL_pass (nw_off rfl rfl rfl rfl rfl) rfl ?_
   refine GL_rd (v := .bool _) (wn_none rfl) rfl (rd_pickF rfl rfl rfl) ?_
   refine GL_rd (v := .bool _) (wn_none rfl) rfl (rd_move rfl rfl) ?_
   refine GL_pass (nw_off rfl rfl rfl rfl rfl) rfl ?_
   refine GL_pass (nw_off rfl rfl rfl rfl rfl) rfl ?_
   refine GL_pass (nw_off rfl rfl rfl rfl rfl) rfl ?_
   refine GL_pass (nw_off rfl rfl rfl rfl rfl) rfl ?_
   refine GL_pass (nw_off rfl rfl rfl rfl rfl) rfl ?_
   refine GL_rd (v := .bool _) (wn_none rfl) rfl (rd_pickF rfl rfl rfl) ?_
   refine GL_rd (v := .bool _) (wn_none rfl) rfl (rd_assign rfl rfl) ?_
   refine GL_nil ?_
   refine GW_ret ?_
   exact ⟨_, res1 Try.results40 (rv_tmp (v := .bool _) rfl rfl), by rw [lessR, decide_eq_true h1, decide_eq_false h2]; rfl, hp.mods⟩
 ·intro hb; (try simp only [decide_eq_true_eq, decide_eq_false_iff_not, Bool.not_eq_true', Bool.not_eq_false', Bool.not_eq_eq_eq_not, Bool.not_true, Bool.not_false, Int.not_lt, Int.not_le] at hb)
  have h1 : ¬ a.ch ≤ b.ch := by have := hb; omega
  refine GL_pass (nw_off rfl rfl rfl rfl rfl) rfl ?_
  refine GL_pass (nw_off rfl rfl rfl rfl rfl) rfl ?_
  refine GL_pass (nw_off rfl rfl rfl rfl rfl) rfl ?_
  refine GL_pass (nw_off rfl rfl rfl rfl rfl) rfl ?_
  refine GL_pass (nw_off rfl rfl rfl rfl rfl) rfl ?_
  refine GL_rd (v := .bool _) (wn_none rfl) rfl (rd_pickF rfl rfl rfl) ?_
  refine GL_rd (v := .bool _) (wn_none rfl) rfl (rd_move rfl rfl) ?_
  refine GL_pass (nw_off rfl rfl rfl rfl rfl) rfl ?_
  refine GL_pass (nw_off rfl rfl rfl rfl rfl) rfl ?_
  refine GL_pass (nw_off rfl rfl rfl rfl rfl) rfl ?_
  refine GL_pass (nw_off rfl rfl rfl rfl rfl) rfl ?_
  refine GL_pass (nw_off rfl rfl rfl rfl rfl) rfl ?_
  refine GL_rd (v := .bool _) (wn_none rfl) rfl (rd_pickF rfl rfl rfl) ?_
  refine GL_rd (v := .bool _) (wn_none rfl) rfl (rd_move rfl rfl) ?_
  refine GL_pass (nw_off rfl rfl rfl rfl rfl) rfl ?_
  refine GL_pass (nw_off rfl rfl rfl rfl rfl) rfl ?_
  refine GL_pass (nw_off rfl rfl rfl rfl rfl) rfl ?_
  refine GL_pass (nw_off rfl rfl rfl rfl rfl) rfl ?_
  refine GL_pass (nw_off rfl rfl rfl rfl rfl) rfl ?_
  refine GL_rd (v := .bool _) (wn_none rfl) rfl (rd_pickF rfl rfl rfl) ?_
  refine GL_rd (v := .bool _) (wn_none rfl) rfl (rd_assign rfl rfl) ?_
  refine GL_nil ?_
  refine GW_ret ?_
  exact ⟨_, res1 Try.results40 (rv_tmp (v := .bool _) rfl rfl), by rw [lessR, decide_eq_false h1]; rfl, hp.mods⟩
theorem q_Fits (gx : Nat) (I : Im) (c a : Int) (tv : Value) (L : List (Value × List UInt8)) (w0 : World) (hL : Sl w0 tv 1 L.length (L.map Prod.fst)) (hLs : ∀ x ∈ L, Sl w0 x.1 1 x.2.length (bys x.2)) (hT : ImAt 117 171 174 gx I w0) (hpa : 0 ≤ I.p.a ∧ I.p.a ≤ 80) (hm2 : I.m.length ≤ 200) (hAl : I.A.length ≤ 80) (hbd : L.length ≤ 65536 ∧ ∀ x ∈ L, x.2.length ≤ 65536) : Does Try.prog 13 #[.pointer (some ⟨gx, 0, none⟩), .int .i64 c, .int .i64 a, tv] w0 fun v w' => v = .bool (lessR (needR c a (L.map fun x => x.2.length)) (roomR I)) ∧ Hp w0 [] w' [] := by
 refine does_of (l := [.pointer (some ⟨gx, 0, none⟩), .int .i64 c, .int .i64 a, tv]) Try.func13 (by kernel_rfl) rfl Try.ntmps13 rfl rfl (by kernel_rfl) ?_
 have hp := Hp.refl w0 []
 refine GW_seq ?_
 refine GW_region ?_
 refine GL_rd (v := .bool _) (wn_none rfl) rfl (rd_assign rfl rfl) ?_
 refine GL_nil ?_
 refine GW_seq ?_
 refine GW_region ?_
 refine GL_rd (v := .pointer (some ⟨gx, 0, none⟩)) (wn_none rfl) rfl (rd_move rfl rfl) ?_
 refine GL_rd (wn_none rfl) rfl (rd_bin rfl rfl rfl (bo_pnnil Try.underlying29)) ?_
 refine GL_rd (v := .bool _) (wn_none rfl) rfl (rd_move rfl rfl) ?_
 refine GL_rd (v := .int _ _) (wn_on rfl rfl rfl rfl) rfl (rd_move rfl rfl) ?_
 refine GL_rd (v := .int _ _) (wn_on rfl rfl rfl rfl) rfl (rd_move rfl rfl) ?_
 refine GL_rd (v := tv) (wn_on rfl rfl rfl rfl) rfl (rd_move rfl rfl) ?_
 refine GL_call (wn_on rfl rfl rfl rfl) rfl rfl (q_Need c a tv L _ (hL.keep hp.mod) (fun x hx => (hLs x hx).keep hp.mod) hbd) rfl ?_
 rintro _ w ⟨rfl, hk⟩
 have hp := hp.comp hk
 refine GL_rd (v := .pointer (some ⟨gx, 0, none⟩)) (wn_on rfl rfl rfl rfl) rfl (rd_move rfl rfl) ?_
 refine GL_call (wn_on rfl rfl rfl rfl) rfl rfl (q_Of gx I _ (hT.keep hp.mod) hpa hm2 hAl) rfl ?_
 rintro _ w ⟨rfl, hk⟩
 have hp := hp.comp hk
 refine GL_call (wn_on rfl rfl rfl rfl) rfl rfl (q_Less _ _ _) rfl ?_
 rintro _ w ⟨rfl, hk⟩
 have hp := hp.comp hk
 refine GL_rd (v := .bool _) (wn_none rfl) rfl (rd_pickT rfl rfl rfl) ?_
 refine GL_rd (v := .bool _) (wn_none rfl) rfl (rd_assign rfl rfl) ?_
 refine GL_nil ?_
 refine GW_ret ?_
 exact ⟨_, res1 Try.results13 (rv_tmp (v := .bool _) rfl rfl), rfl, hp.mods⟩
set_option maxHeartbeats 2000000 in
theorem q_Fresh0 (gx : Nat) (I : Im) (sv : Value) (l : List UInt8) (w0 : World) (hT : ImAt 117 171 174 gx I w0) (hI : Sl w0 sv 1 l.length (bys l)) (hb : l.length ≤ 65536) (hz : ∀ x ∈ I.e, x.count = 0) (h1 : 1 ≤ I.e.length) : Does Try.prog 41 #[.pointer (some ⟨gx, 0, none⟩), sv] w0 fun v w' => v = .int .i64 ((freshL (adrsC l)).length : Int) ∧ Hp w0 [] w' [] := by
 have hal := adrsC_len l
 have hcl : cntC l.length ≤ 256 := by unfold cntC; omega
 refine does_of (l := [.pointer (some ⟨gx, 0, none⟩), sv]) Try.func41 (by kernel_rfl) rfl Try.ntmps41 rfl rfl (by kernel_rfl) ?_
 have hp := Hp.refl w0 []
 refine GW_seq ?_
 refine GW_region ?_
 refine GL_rd (v := .int _ _) (wn_none rfl) rfl (rd_assign rfl rfl) ?_
 refine GL_nil ?_
 refine GW_seq ?_
 refine GW_seq ?_
 refine GW_region ?_
 refine GL_rd (v := .pointer (some ⟨gx, 0, none⟩)) (wn_none rfl) rfl (rd_move rfl rfl) ?_
 refine GL_rd (wn_none rfl) rfl (rd_bin rfl rfl rfl (bo_pnil Try.underlying29)) ?_
 refine GL_nil ?_
 refine GW_false rfl ?_
 refine GW_skip ?_
 refine GW_seq ?_
 refine GW_region ?_
 refine GL_makeMap (wn_none rfl) rfl rfl hp ?_
 intro g w hp
 refine GL_rd (v := .int _ _) (wn_none rfl) rfl (rd_assign rfl rfl) ?_
 refine GL_rd (v := _) (wn_none rfl) rfl (rd_assign rfl rfl) ?_
 refine GL_nil ?_
 refine GW_seq ?_
 refine GW_seq ?_
 refine GW_region ?_
 refine GL_rd (v := sv) (wn_none rfl) rfl (rd_move rfl rfl) ?_
 refine GL_call (wn_none rfl) rfl rfl (chk_Addresses sv l _ (hI.keep hp.mod) hb) rfl ?_
 intro va w hk
 have hp := hp.comp hk
 obtain ⟨Aa, ca, rfl⟩ := row_shape (hp.get 0 rfl)
 refine GL_rd (wn_none rfl) rfl (rd_len rfl rfl Try.underlying67) ?_
 refine GL_rd (v := .int _ _) (wn_none rfl) rfl (rd_move rfl rfl) ?_
 refine GL_nil ?_
 refine GW_block ?_
 refine GW_loop ?_
 refine Lp_ind (α := Nat × KL A32 × Nat × Option Addr) (fun a_0 f_0 w' => match a_0 with | (i, A, k, Aa) => ∃ fz, f_0 = (upd (upd (upd (upd (upd (upd fz 5 (.int .i64 ((freshL ((adrsC l).take i)).length : Int))) 15 (.slice Aa (adrsC l).length ca)) 16 (.int .i64 ((adrsC l).length : Int))) 17 (.int .i64 (i : Int))) 6 (.map (some g))) 0 (.pointer (some ⟨gx, 0, none⟩))) ∧ Hp w0 [] w' [.blk g (.map ⟨kmE (ekB 32) A⟩ k), .row 66 32 (.slice Aa (adrsC l).length ca) (adrsC l).length ((adrsC l).flatMap adC)] ∧ (i ≤ (adrsC l).length) ∧ (∀ a, kmG A a = if a ∈ (freshL ((adrsC l).take i)) then some (.bool true) else none)) (fun a_0 => match a_0 with | (i, A, k, Aa) => (adrsC l).length - i) ?_ (0, [], 0, Aa) _ _ ?_
 ·rintro ⟨i, A, k, Aa⟩ f wz ⟨fz, rfl, hp, hi0, hmet⟩ ihL0
  refine Lp_round ?_
  refine GW_seq ?_
  refine GW_region ?_
  refine GL_rd (wn_none rfl) rfl (rd_bin rfl rfl rfl bo_lss) ?_
  refine GL_nil ?_
  refine GW_seq ?_
  refine GW_cond rfl (fun hb => ?_) (fun hb => ?_)
  ·(try simp only [decide_eq_true_eq, decide_eq_false_iff_not, Bool.not_eq_true', Bool.not_eq_false', Bool.not_eq_eq_eq_not, Bool.not_true, Bool.not_false, Int.not_lt, Int.not_le] at hb)
   obtain ⟨gV, bV, rfl⟩ := (Sl.row (hp.get 1 rfl)).addr (by rw [flat_length adC_len]; omega)
   have hfl := freshL_len (adrsC l) i (by omega)
   have hft := freshL_take (l := (adrsC l)) (i := i) (by omega)
   refine GW_skip ?_
   refine GW_seq ?_
   refine GW_block ?_
   refine GW_seq ?_
   refine GW_region ?_
   refine GL_rd (wn_none rfl) rfl (rd_indexS (j := i) rfl rfl rfl Try.underlying67 ts66 rfl (by omega) _ rfl) ?_
   refine GL_rd (wn_none rfl) rfl (rd_loadN (L := bys (adAt (adrsC l) i).1) rfl rfl Try.underlying66 rfl ts66 (by rw [bys_length]; exact (adAt _ _).2) (fun jq u hj => (Sl.row (hp.get 1 rfl)).elem adC_len i jq (by have := (List.getElem?_eq_some_iff.1 hj).1; rwa [bys_length, (adAt (adrsC l) i).2] at this) (adAt_some (by omega)) hj)) ?_
   refine GL_alloc (wn_none rfl) rfl rfl tz66 rfl hp ?_
   intro g2 w hp
   refine GL_store (i := 0) (wn_none rfl) rfl rfl rfl rfl ts66 rfl (by rw [bys_length]; first | exact a32_len _ | rfl | simp [*]) (bys_one _) hp rfl (by first | exact Nat.le_of_ble_eq_true rfl | (simp only [bys_length, a32_len]; omega)) (splice_all _ _ (by first | (rw [bys_length, List.length_replicate]; first | exact a32_len _) | (rw [bys_length]; first | exact a32_len _) | (rw [bys_length]; rfl) | simp [bys_length, a32_len, *])) ?_
   intro w hp
   refine GL_nil ?_
   refine GW_cut (fun f_0 w' => ∃ (g3 : Nat) (fz : _), f_0 = (upd (upd (upd (upd (upd (upd (upd (upd fz 10 (.bool false)) 15 (.slice (some ⟨gV, bV, none⟩) (adrsC l).length ca)) 0 (.pointer (some ⟨gx, 0, none⟩))) 5 (.int .i64 ((freshL ((adrsC l).take i)).length : Int))) 6 (.map (some g))) 8 (.pointer (some ⟨g2, 0, none⟩))) 16 (.int .i64 ((adrsC l).length : Int))) 17 (.int .i64 (i : Int))) ∧ Hp w0 [] w' [.blk g (.map ⟨kmE (ekB 32) A⟩ k), .row 66 32 (.slice (some ⟨gV, bV, none⟩) (adrsC l).length ca) (adrsC l).length ((adrsC l).flatMap adC), cells g2 66 (bys (adAt (adrsC l) i).1)]) ?_ ?_
   ·skip
    refine GW_drawnK 10 (.one 0 true (.one 1 true (.one 2 true (.one 3 true (.one 4 true (.two 5 9 (.one 6 true (.one 7 true (.one 8 true (.one 9 false (.one 10 false (.one 11 false .nil)))))) (.one 5 false (.one 6 true (.one 7 true (.one 8 true (.one 10 false (.one 11 false .nil)))))))))))) mixed (by kernel_rfl) hp (fun _ h => (h.sub (.cons_cons _ (.cons _ (.cons _ .slnil))))) fun w hp => ?_
    have hpS := (hp.sub (.cons_cons _ (.cons _ (.cons _ .slnil))))
    refine GO_rdT (v := .pointer (some ⟨gx, 0, none⟩)) rfl (wn_none rfl) rfl (fun w => (rd_move rfl rfl)) ?_
    refine GO_rdT rfl (wn_none rfl) rfl (fun w => (rd_nilCheck rfl rfl)) ?_
    refine GO_rdT rfl (wn_none rfl) rfl (fun w => (rd_field rfl rfl fa117_2 _ rfl)) ?_
    refine GO_rd (v := .pointer (some ⟨I.tg, 0, none⟩)) rfl rfl (wn_none rfl) rfl hpS (fun w hp => (rd_load rfl rfl Try.underlying107 rfl ((cell_of_cells (hT.keep hp.mod).i _).trans rfl))) ?_
    refine GO_rd rfl rfl (wn_none rfl) rfl hpS (fun w hp => (rd_loadC rfl rfl Try.underlying66 rfl ts66 (hp.get 0 rfl) (by first | (rw [bys_length]; first | exact a32_len _) | rfl | simp [bys_length, *]))) ?_
    refine GO_two rfl rfl ?_ ?_
    ·skip
     refine GC_of_GL ?_
     refine GL_call (wn_none rfl) rfl rfl (tb_Get0 I.tg I.ev I.n I.e (adAt (adrsC l) i) _ (hT.keep hp.mod).tt (hT.keep hp.mod).te hz h1) rfl ?_
     rintro _ w ⟨rfl, hk⟩
     have hp := hp.comp hk
     have hpS2 := (hp.sub (.cons_cons _ (.cons _ (.cons _ .slnil))))
     refine GL_nil ⟨fun _ => hpS2, ?_⟩
     refine GO_rdT (v := .tuple _) rfl (wn_none rfl) rfl (fun w => (rd_move rfl rfl)) ?_
     refine GO_rdT (v := .agg ⟨_⟩) rfl (wn_none rfl) rfl (fun w => (rd_extract rfl rfl rfl)) ?_
     refine GO_rdT (v := .bool _) rfl (wn_none rfl) rfl (fun w => (rd_extract rfl rfl rfl)) ?_
     refine GO_of_GL rfl ?_
     refine GL_alloc (wn_none rfl) rfl rfl tz164 rfl hp ?_
     intro g3 w hp
     have hpS3 := (hp.sub (.cons _ (.cons_cons _ (.cons _ (.cons _ .slnil)))))
     refine GL_nil ⟨fun _ => hpS3, ?_⟩
     refine GO_of_GL rfl ?_
     refine GL_store (i := 0) (wn_none rfl) rfl rfl rfl rfl ts164 rfl (enC_len _) (enC_one _) hp rfl (by first | exact Nat.le_of_ble_eq_true rfl | (rw [enC_len]; decide)) (splice_all _ _ (by first | rw [enC_len, enC_len] | (rw [enC_len]; rfl))) ?_
     intro w hp
     refine GL_nil ⟨fun h => absurd h (by decide), ?_⟩
     refine GO_of_GL rfl ?_
     refine GL_rd (v := .bool _) (wn_none rfl) rfl (rd_assign rfl rfl) (GL_nil ⟨fun h => absurd h (by decide), ?_⟩)
     refine GO_nil ?_
     have hp := ((((hp.front 1 rfl).front 3 rfl).front 3 rfl).take 3)
     exact ⟨0, _, slots8 rfl rfl rfl rfl rfl rfl rfl rfl, hp⟩
    ·skip
     refine GC_of_GL ?_
     refine GL_alloc (wn_none rfl) rfl rfl tz164 rfl hp ?_
     intro g4 w hp
     have hpS4 := (hp.sub (.cons _ (.cons_cons _ (.cons _ (.cons _ .slnil)))))
     refine GL_nil ⟨fun _ => hpS4, ?_⟩
     refine GO_of_GL rfl ?_
     refine GL_call (wn_none rfl) rfl rfl (tb_Get0 I.tg I.ev I.n I.e (adAt (adrsC l) i) _ (hT.keep hp.mod).tt (hT.keep hp.mod).te hz h1) rfl ?_
     rintro _ w ⟨rfl, hk⟩
     have hp := hp.comp hk
     have hpS5 := (hp.sub (.cons _ (.cons_cons _ (.cons _ (.cons _ .slnil)))))
     refine GL_nil ⟨fun _ => hpS5, ?_⟩
     refine GO_rdT (v := .tuple _) rfl (wn_none rfl) rfl (fun w => (rd_move rfl rfl)) ?_
     refine GO_rdT (v := .agg ⟨_⟩) rfl (wn_none rfl) rfl (fun w => (rd_extract rfl rfl rfl)) ?_
     refine GO_rdT (v := .bool _) rfl (wn_none rfl) rfl (fun w => (rd_extract rfl rfl rfl)) ?_
     refine GO_of_GL rfl ?_
     refine GL_store (i := 0) (wn_none rfl) rfl rfl rfl rfl ts164 rfl (enC_len _) (enC_one _) hp rfl (by first | exact Nat.le_of_ble_eq_true rfl | (rw [enC_len]; decide)) (splice_all _ _ (by first | rw [enC_len, enC_len] | (rw [enC_len]; rfl))) ?_
     intro w hp
     refine GL_nil ⟨fun h => absurd h (by decide), ?_⟩
     refine GO_of_GL rfl ?_
     refine GL_rd (v := .bool _) (wn_none rfl) rfl (rd_assign rfl rfl) (GL_nil ⟨fun h => absurd h (by decide), ?_⟩)
     refine GO_nil ?_
     have hp := ((((hp.front 1 rfl).front 3 rfl).front 3 rfl).take 3)
     exact ⟨0, _, slots8 rfl rfl rfl rfl rfl rfl rfl rfl, hp⟩
   ·rintro f w ⟨g3, fz, rfl, hp⟩
    refine GW_seq ?_
    by_cases hmem : adAt (adrsC l) i ∈ (freshL ((adrsC l).take i))
    ·skip
     refine GW_region ?_
     refine GL_rd (v := .bool _) (wn_none rfl) rfl (rd_move rfl rfl) ?_
     refine GL_rd (wn_none rfl) rfl (rd_not rfl rfl) ?_
     refine GL_rd (v := .bool _) (wn_none rfl) rfl (rd_move rfl rfl) ?_
     refine GL_rd (v := .map (some g)) (wn_on rfl rfl rfl rfl) rfl (rd_move rfl rfl) ?_
     refine GL_rd (wn_on rfl rfl rfl rfl) rfl (rd_loadC rfl rfl Try.underlying66 rfl ts66 (hp.get 2 rfl) (by first | (rw [bys_length]; first | exact a32_len _) | rfl | simp [bys_length, *])) ?_
     refine GL_rd (v := .bool true) (wn_on rfl rfl rfl rfl) rfl (rd_eqK (rd_lookK1 (κ := A32) (ek := ekB 32) (s := adAt (adrsC l) i) rfl rfl rfl Try.underlying161 (keyArr Try.underlying66 Try.underlying5 ts5) tz4 (hp.get 0 rfl)) (by rw [hmet, if_pos hmem]; rfl)) ?_
     refine GL_rd (wn_on rfl rfl rfl rfl) rfl (rd_not rfl rfl) ?_
     refine GL_rd (v := .bool _) (wn_none rfl) rfl (rd_pickT rfl rfl rfl) ?_
     refine GL_nil ?_
     refine GW_false rfl ?_
     refine GW_skip ?_
     refine GW_region ?_
     refine GL_rd (wn_none rfl) rfl (rd_bin rfl rfl rfl (bo_add64 (by omega))) ?_
     refine GL_rd (v := .int _ _) (wn_none rfl) rfl (rd_move rfl rfl) ?_
     refine GL_nil ?_
     have hp := (((hp.front 1 rfl).front 1 rfl).take 2)
     exact ihL0 (i + 1, _, _, _) _ _ (by simp only []; omega) ⟨_, slots6 (by first | (rw [hft, if_pos hmem]; done) | (rw [hft, if_pos hmem]; rfl) | (rw [hft, if_neg hmem, List.length_append]; rfl)) rfl rfl rfl rfl rfl, hp, by omega, fun a => by rw [hft, if_pos hmem]; exact hmet a⟩
    ·skip
     refine GW_region ?_
     refine GL_rd (v := .bool _) (wn_none rfl) rfl (rd_move rfl rfl) ?_
     refine GL_rd (wn_none rfl) rfl (rd_not rfl rfl) ?_
     refine GL_rd (v := .bool _) (wn_none rfl) rfl (rd_move rfl rfl) ?_
     refine GL_rd (v := .map (some g)) (wn_on rfl rfl rfl rfl) rfl (rd_move rfl rfl) ?_
     refine GL_rd (wn_on rfl rfl rfl rfl) rfl (rd_loadC rfl rfl Try.underlying66 rfl ts66 (hp.get 2 rfl) (by first | (rw [bys_length]; first | exact a32_len _) | rfl | simp [bys_length, *])) ?_
     refine GL_rd (v := .bool false) (wn_on rfl rfl rfl rfl) rfl (rd_eqK (rd_lookK1 (κ := A32) (ek := ekB 32) (s := adAt (adrsC l) i) rfl rfl rfl Try.underlying161 (keyArr Try.underlying66 Try.underlying5 ts5) tz4 (hp.get 0 rfl)) (by rw [hmet, if_neg hmem]; rfl)) ?_
     refine GL_rd (wn_on rfl rfl rfl rfl) rfl (rd_not rfl rfl) ?_
     refine GL_rd (v := .bool _) (wn_none rfl) rfl (rd_pickT rfl rfl rfl) ?_
     refine GL_nil ?_
     refine GW_true rfl ?_
     refine GW_seq ?_
     refine GW_region ?_
     refine GL_rd (v := .int _ _) (wn_none rfl) rfl (rd_move rfl rfl) ?_
     refine GL_rd (wn_none rfl) rfl (rd_bin rfl rfl rfl (bo_add64 (by omega))) ?_
     refine GL_rd (v := .int _ _) (wn_none rfl) rfl (rd_assign rfl rfl) ?_
     refine GL_nil ?_
     refine GW_region ?_
     refine GL_rd (v := .map (some g)) (wn_none rfl) rfl (rd_move rfl rfl) ?_
     refine GL_rd (wn_none rfl) rfl (rd_loadC rfl rfl Try.underlying66 rfl ts66 (hp.get 2 rfl) (by first | (rw [bys_length]; first | exact a32_len _) | rfl | simp [bys_length, *])) ?_
     refine GL_putK (κ := A32) (i := 0) (ek := ekB 32) (s := adAt (adrsC l) i) (wn_none rfl) rfl rfl rfl rfl rfl Try.underlying161 (keyArr Try.underlying66 Try.underlying5 ts5) hp rfl ?_
     intro w hp
     refine GL_nil ?_
     refine GW_region ?_
     refine GL_rd (wn_none rfl) rfl (rd_bin rfl rfl rfl (bo_add64 (by omega))) ?_
     refine GL_rd (v := .int _ _) (wn_none rfl) rfl (rd_move rfl rfl) ?_
     refine GL_nil ?_
     have hp := (((hp.front 1 rfl).front 1 rfl).take 2)
     exact ihL0 (i + 1, _, _, _) _ _ (by simp only []; omega) ⟨_, slots6 (by first | (rw [hft, if_pos hmem]; done) | (rw [hft, if_pos hmem]; rfl) | (rw [hft, if_neg hmem, List.length_append]; rfl)) rfl rfl rfl rfl rfl, hp, by omega, fun a => by rw [hft, if_neg hmem]; exact met_put hmet a⟩
  ·(try simp only [decide_eq_true_eq, decide_eq_false_iff_not, Bool.not_eq_true', Bool.not_eq_false', Bool.not_eq_eq_eq_not, Bool.not_true, Bool.not_false, Int.not_lt, Int.not_le] at hb)
   have hia : i = (adrsC l).length := by omega
   have htk : (adrsC l).take i = (adrsC l) := List.take_of_length_le (by omega)
   refine GW_exit ?_
   refine GW_seq ?_
   refine GW_region ?_
   refine GL_rd (v := .int _ _) (wn_none rfl) rfl (rd_move rfl rfl) ?_
   refine GL_rd (v := .int _ _) (wn_none rfl) rfl (rd_assign rfl rfl) ?_
   refine GL_nil ?_
   refine GW_ret ?_
   exact ⟨_, res1 Try.results41 (rv_tmp (v := .int _ _) rfl rfl), by rw [htk], hp.mods⟩
 ·have hp := (((hp.front 0 rfl).front 1 rfl).take 2)
  refine ⟨_, slots6 rfl rfl rfl rfl rfl rfl, hp, Nat.zero_le _, fun a => by simp [freshL, kmG, kmF]⟩
theorem q_Saved0 (gx : Nat) (I : Im) (sv : Value) (l : List UInt8) (w0 : World) (hT : ImAt 117 171 174 gx I w0) (hI : Sl w0 sv 1 l.length (bys l)) (hb : l.length ≤ 65536) (hz : ∀ x ∈ I.e, x.count = 0) (h1 : 1 ≤ I.e.length) : Does Try.prog 42 #[.pointer (some ⟨gx, 0, none⟩), sv] w0 fun v w' => v = .int .i64 ((cntC l.length : Int) - ((freshL (adrsC l)).length : Int)) ∧ Hp w0 [] w' [] := by
 obtain ⟨A, c, rfl⟩ := sl_shape hI
 have hfl := freshL_len (adrsC l) (adrsC l).length (Nat.le_refl _)
 rw [List.take_length, adrsC_len] at hfl
 have hcl : cntC l.length ≤ 256 := by unfold cntC; omega
 refine does_of (l := [.pointer (some ⟨gx, 0, none⟩), .slice A l.length c]) Try.func42 (by kernel_rfl) rfl Try.ntmps42 rfl rfl (by kernel_rfl) ?_
 have hp := Hp.refl w0 []
 refine GW_seq ?_
 refine GW_region ?_
 refine GL_rd (v := .int _ _) (wn_none rfl) rfl (rd_assign rfl rfl) ?_
 refine GL_nil ?_
 refine GW_seq ?_
 refine GW_seq ?_
 refine GW_region ?_
 refine GL_rd (v := .pointer (some ⟨gx, 0, none⟩)) (wn_none rfl) rfl (rd_move rfl rfl) ?_
 refine GL_rd (wn_none rfl) rfl (rd_bin rfl rfl rfl (bo_pnil Try.underlying29)) ?_
 refine GL_nil ?_
 refine GW_false rfl ?_
 refine GW_skip ?_
 refine GW_seq ?_
 refine GW_region ?_
 refine GL_rd (v := .slice _ _ _) (wn_none rfl) rfl (rd_move rfl rfl) ?_
 refine GL_rd (wn_none rfl) rfl (rd_len rfl rfl Try.underlying33) ?_
 refine GL_call (wn_none rfl) rfl rfl (chk_Count (l.length : Int) _ (by omega)) rfl ?_
 rintro v0 w ⟨hv, hk⟩
 have hp := hp.comp hk
 obtain rfl : v0 = .int .i64 (cntC l.length : Int) := hv.trans (by rw [cntZ_nat])
 refine GL_rd (v := .pointer (some ⟨gx, 0, none⟩)) (wn_none rfl) rfl (rd_move rfl rfl) ?_
 refine GL_rd (v := .slice _ _ _) (wn_none rfl) rfl (rd_move rfl rfl) ?_
 refine GL_call (wn_none rfl) rfl rfl (q_Fresh0 gx I _ l _ (hT.keep hp.mod) (hI.keep hp.mod) hb hz h1) rfl ?_
 rintro _ w ⟨rfl, hk⟩
 have hp := hp.comp hk
 refine GL_rd (wn_none rfl) rfl (rd_bin rfl rfl rfl (bo_sub64 (by omega))) ?_
 refine GL_rd (v := .int _ _) (wn_none rfl) rfl (rd_assign rfl rfl) ?_
 refine GL_nil ?_
 refine GW_ret ?_
 exact ⟨_, res1 Try.results42 (rv_tmp (v := .int _ _) rfl rfl), rfl, hp.mods⟩
theorem q_Frees0 (gx : Nat) (I : Im) (a : A32) (w0 : World) (hT : ImAt 117 171 174 gx I w0) (hno : txF I.T a = -1) : Does Try.prog 43 #[.pointer (some ⟨gx, 0, none⟩), .agg ⟨bys a.1⟩] w0 fun v w' => v = .int .i64 0 ∧ Hp w0 [] w' [] := by
 refine does_of (l := [.pointer (some ⟨gx, 0, none⟩), .agg ⟨bys a.1⟩]) Try.func43 (by kernel_rfl) rfl Try.ntmps43 rfl rfl (by kernel_rfl) ?_
 have hp := Hp.refl w0 []
 refine GW_seq ?_
 refine GW_region ?_
 refine GL_box (wn_none rfl) rfl rfl rfl rfl hp ?_
 intro g w hp
 refine GL_rd (v := .int _ _) (wn_none rfl) rfl (rd_assign rfl rfl) ?_
 refine GL_nil ?_
 refine GW_seq ?_
 refine GW_seq ?_
 refine GW_region ?_
 refine GL_rd (v := .pointer (some ⟨gx, 0, none⟩)) (wn_none rfl) rfl (rd_move rfl rfl) ?_
 refine GL_rd (wn_none rfl) rfl (rd_bin rfl rfl rfl (bo_pnil Try.underlying29)) ?_
 refine GL_nil ?_
 refine GW_false rfl ?_
 refine GW_skip ?_
 refine GW_seq ?_
 refine GW_region ?_
 refine GL_rd (v := .pointer (some ⟨gx, 0, none⟩)) (wn_none rfl) rfl (rd_move rfl rfl) ?_
 refine GL_rd (wn_none rfl) rfl (rd_loadC rfl rfl Try.underlying66 rfl ts66 (hp.get 0 rfl) (by first | (rw [bys_length]; first | exact a32_len _) | rfl | simp [bys_length, *])) ?_
 refine GL_call (wn_none rfl) rfl rfl (im_Text gx I a _ (hT.keep hp.mod)) rfl ?_
 rintro v0 w ⟨hv, hk⟩
 have hp := hp.comp hk
 obtain rfl : v0 = .int .i64 (-1) := hv.trans (by rw [hno])
 refine GL_rd (v := .int _ _) (wn_none rfl) rfl (rd_assign rfl rfl) ?_
 refine GL_nil ?_
 refine GW_seq ?_
 refine GW_seq ?_
 refine GW_region ?_
 refine GL_rd (v := .int _ _) (wn_none rfl) rfl (rd_move rfl rfl) ?_
 refine GL_rd (wn_none rfl) rfl (rd_bin rfl rfl rfl (bo_boolE (q := true) bo_lss (by decide))) ?_
 refine GL_nil ?_
 refine GW_true rfl ?_
 refine GW_seq ?_
 refine GW_region ?_
 refine GL_rd (v := .int _ _) (wn_none rfl) rfl (rd_assign rfl rfl) ?_
 refine GL_nil ?_
 refine GW_ret ?_
 exact ⟨_, res1 Try.results43 (rv_tmp (v := .int _ _) rfl rfl), rfl, hp.mods⟩
theorem q_Plan (t b c a : Int) (w0 : World) : Does Try.prog 9 #[.int .i64 t, .int .i64 b, .int .i64 c, .int .i64 a] w0 fun v w' => v = .tuple #[.agg ⟨plC (planQ t b c a).1⟩, .int .i64 (planQ t b c a).2] ∧ Hp w0 [] w' [] := by
 refine does_of (l := [.int .i64 t, .int .i64 b, .int .i64 c, .int .i64 a]) Try.func9 (by kernel_rfl) rfl Try.ntmps9 rfl rfl (by kernel_rfl) ?_
 have hp := Hp.refl w0 []
 refine GW_seq ?_
 refine GW_region ?_
 refine GL_alloc (wn_none rfl) rfl rfl tz23 rfl hp ?_
 intro g w hp
 refine GL_rd (v := .int _ _) (wn_none rfl) rfl (rd_assign rfl rfl) ?_
 refine GL_nil ?_
 refine GW_seq ?_
 refine GW_seq ?_
 refine GW_region ?_
 refine GL_rd (v := .int _ _) (wn_none rfl) rfl (rd_move rfl rfl) ?_
 refine GL_rd (wn_none rfl) rfl (rd_bin rfl rfl rfl bo_lss) ?_
 refine GL_rd (v := .bool _) (wn_none rfl) rfl (rd_move rfl rfl) ?_
 refine GL_split (t := 12) (b := _) rfl ?_ ?_
 ·intro hb; (try simp only [decide_eq_true_eq, decide_eq_false_iff_not, Bool.not_eq_true', Bool.not_eq_false', Bool.not_eq_eq_eq_not, Bool.not_true, Bool.not_false, Int.not_lt, Int.not_le] at hb)
  have hbad : t < 1 ∨ b < 1 ∨ 2048 < b ∨ c < 1 ∨ a < 1 := by have := hb; omega
  refine GL_pass (nw_off rfl rfl rfl rfl rfl) rfl ?_
  refine GL_pass (nw_off rfl rfl rfl rfl rfl) rfl ?_
  refine GL_rd (v := .bool _) (wn_none rfl) rfl (rd_pickT rfl rfl rfl) ?_
  refine GL_rd (v := .bool _) (wn_none rfl) rfl (rd_move rfl rfl) ?_
  refine GL_pass (nw_off rfl rfl rfl rfl rfl) rfl ?_
  refine GL_pass (nw_off rfl rfl rfl rfl rfl) rfl ?_
  refine GL_rd (v := .bool _) (wn_none rfl) rfl (rd_pickT rfl rfl rfl) ?_
  refine GL_rd (v := .bool _) (wn_none rfl) rfl (rd_move rfl rfl) ?_
  refine GL_pass (nw_off rfl rfl rfl rfl rfl) rfl ?_
  refine GL_pass (nw_off rfl rfl rfl rfl rfl) rfl ?_
  refine GL_rd (v := .bool _) (wn_none rfl) rfl (rd_pickT rfl rfl rfl) ?_
  refine GL_rd (v := .bool _) (wn_none rfl) rfl (rd_move rfl rfl) ?_
  refine GL_pass (nw_off rfl rfl rfl rfl rfl) rfl ?_
  refine GL_pass (nw_off rfl rfl rfl rfl rfl) rfl ?_
  refine GL_rd (v := .bool _) (wn_none rfl) rfl (rd_pickT rfl rfl rfl) ?_
  refine GL_nil ?_
  refine GW_true rfl ?_
  refine GW_seq ?_
  refine GW_region ?_
  refine GL_rd (wn_none rfl) rfl (rd_buildS (L := (plC ⟨0, 0, 0, 0⟩)) rfl tz23 pl23 (by kernel_rfl)) ?_
  refine GL_store (i := 0) (wn_none rfl) rfl rfl rfl rfl ts23 rfl rfl (oneC rfl (oneC rfl (oneC rfl (oneC rfl one0)))) hp rfl (by first | exact Nat.le_of_ble_eq_true rfl | simp [bys_length, *]) rfl ?_
  intro w hp
  refine GL_rd (v := .int _ _) (wn_none rfl) rfl (rd_assign rfl rfl) ?_
  refine GL_nil ?_
  refine GW_ret ?_
  exact ⟨_, res2 Try.results9 (rv_cell rfl rfl Try.underlying23 rfl ts23 rfl (hp.get 0 rfl)) (rv_tmp (v := .int _ _) rfl rfl), by rw [planQ, if_pos hbad]; rfl, hp.mods⟩
 ·intro hb; (try simp only [decide_eq_true_eq, decide_eq_false_iff_not, Bool.not_eq_true', Bool.not_eq_false', Bool.not_eq_eq_eq_not, Bool.not_true, Bool.not_false, Int.not_lt, Int.not_le] at hb)
  have q12 := hb
  refine GL_rd (v := .int _ _) (wn_on rfl rfl rfl rfl) rfl (rd_move rfl rfl) ?_
  refine GL_rd (wn_on rfl rfl rfl rfl) rfl (rd_bin rfl rfl rfl bo_lss) ?_
  refine GL_rd (v := .bool _) (wn_none rfl) rfl (rd_pickF rfl rfl rfl) ?_
  refine GL_rd (v := .bool _) (wn_none rfl) rfl (rd_move rfl rfl) ?_
  refine GL_split (t := 16) (b := _) rfl ?_ ?_
  ·intro hb2; (try simp only [decide_eq_true_eq, decide_eq_false_iff_not, Bool.not_eq_true', Bool.not_eq_false', Bool.not_eq_eq_eq_not, Bool.not_true, Bool.not_false, Int.not_lt, Int.not_le] at hb2)
   have hbad : t < 1 ∨ b < 1 ∨ 2048 < b ∨ c < 1 ∨ a < 1 := by have := hb2; omega
   refine GL_pass (nw_off rfl rfl rfl rfl rfl) rfl ?_
   refine GL_pass (nw_off rfl rfl rfl rfl rfl) rfl ?_
   refine GL_rd (v := .bool _) (wn_none rfl) rfl (rd_pickT rfl rfl rfl) ?_
   refine GL_rd (v := .bool _) (wn_none rfl) rfl (rd_move rfl rfl) ?_
   refine GL_pass (nw_off rfl rfl rfl rfl rfl) rfl ?_
   refine GL_pass (nw_off rfl rfl rfl rfl rfl) rfl ?_
   refine GL_rd (v := .bool _) (wn_none rfl) rfl (rd_pickT rfl rfl rfl) ?_
   refine GL_rd (v := .bool _) (wn_none rfl) rfl (rd_move rfl rfl) ?_
   refine GL_pass (nw_off rfl rfl rfl rfl rfl) rfl ?_
   refine GL_pass (nw_off rfl rfl rfl rfl rfl) rfl ?_
   refine GL_rd (v := .bool _) (wn_none rfl) rfl (rd_pickT rfl rfl rfl) ?_
   refine GL_nil ?_
   refine GW_true rfl ?_
   refine GW_seq ?_
   refine GW_region ?_
   refine GL_rd (wn_none rfl) rfl (rd_buildS (L := (plC ⟨0, 0, 0, 0⟩)) rfl tz23 pl23 (by kernel_rfl)) ?_
   refine GL_store (i := 0) (wn_none rfl) rfl rfl rfl rfl ts23 rfl rfl (oneC rfl (oneC rfl (oneC rfl (oneC rfl one0)))) hp rfl (by first | exact Nat.le_of_ble_eq_true rfl | simp [bys_length, *]) rfl ?_
   intro w hp
   refine GL_rd (v := .int _ _) (wn_none rfl) rfl (rd_assign rfl rfl) ?_
   refine GL_nil ?_
   refine GW_ret ?_
   exact ⟨_, res2 Try.results9 (rv_cell rfl rfl Try.underlying23 rfl ts23 rfl (hp.get 0 rfl)) (rv_tmp (v := .int _ _) rfl rfl), by rw [planQ, if_pos hbad]; rfl, hp.mods⟩
  ·intro hb2; (try simp only [decide_eq_true_eq, decide_eq_false_iff_not, Bool.not_eq_true', Bool.not_eq_false', Bool.not_eq_eq_eq_not, Bool.not_true, Bool.not_false, Int.not_lt, Int.not_le] at hb2)
   have q16 := hb2
   refine GL_rd (v := .int _ _) (wn_on rfl rfl rfl rfl) rfl (rd_move rfl rfl) ?_
   refine GL_rd (wn_on rfl rfl rfl rfl) rfl (rd_bin rfl rfl rfl bo_gtr) ?_
   refine GL_rd (v := .bool _) (wn_none rfl) rfl (rd_pickF rfl rfl rfl) ?_
   refine GL_rd (v := .bool _) (wn_none rfl) rfl (rd_move rfl rfl) ?_
   refine GL_split (t := 20) (b := _) rfl ?_ ?_
   ·intro hb3; (try simp only [decide_eq_true_eq, decide_eq_false_iff_not, Bool.not_eq_true', Bool.not_eq_false', Bool.not_eq_eq_eq_not, Bool.not_true, Bool.not_false, Int.not_lt, Int.not_le] at hb3)
    have hbad : t < 1 ∨ b < 1 ∨ 2048 < b ∨ c < 1 ∨ a < 1 := by have := hb3; omega
    refine GL_pass (nw_off rfl rfl rfl rfl rfl) rfl ?_
    refine GL_pass (nw_off rfl rfl rfl rfl rfl) rfl ?_
    refine GL_rd (v := .bool _) (wn_none rfl) rfl (rd_pickT rfl rfl rfl) ?_
    refine GL_rd (v := .bool _) (wn_none rfl) rfl (rd_move rfl rfl) ?_
    refine GL_pass (nw_off rfl rfl rfl rfl rfl) rfl ?_
    refine GL_pass (nw_off rfl rfl rfl rfl rfl) rfl ?_
    refine GL_rd (v := .bool _) (wn_none rfl) rfl (rd_pickT rfl rfl rfl) ?_
    refine GL_nil ?_
    refine GW_true rfl ?_
    refine GW_seq ?_
    refine GW_region ?_
    refine GL_rd (wn_none rfl) rfl (rd_buildS (L := (plC ⟨0, 0, 0, 0⟩)) rfl tz23 pl23 (by kernel_rfl)) ?_
    refine GL_store (i := 0) (wn_none rfl) rfl rfl rfl rfl ts23 rfl rfl (oneC rfl (oneC rfl (oneC rfl (oneC rfl one0)))) hp rfl (by first | exact Nat.le_of_ble_eq_true rfl | simp [bys_length, *]) rfl ?_
    intro w hp
    refine GL_rd (v := .int _ _) (wn_none rfl) rfl (rd_assign rfl rfl) ?_
    refine GL_nil ?_
    refine GW_ret ?_
    exact ⟨_, res2 Try.results9 (rv_cell rfl rfl Try.underlying23 rfl ts23 rfl (hp.get 0 rfl)) (rv_tmp (v := .int _ _) rfl rfl), by rw [planQ, if_pos hbad]; rfl, hp.mods⟩
   ·intro hb3; (try simp only [decide_eq_true_eq, decide_eq_false_iff_not, Bool.not_eq_true', Bool.not_eq_false', Bool.not_eq_eq_eq_not, Bool.not_true, Bool.not_false, Int.not_lt, Int.not_le] at hb3)
    have q20 := hb3
    refine GL_rd (v := .int _ _) (wn_on rfl rfl rfl rfl) rfl (rd_move rfl rfl) ?_
    refine GL_rd (wn_on rfl rfl rfl rfl) rfl (rd_bin rfl rfl rfl bo_lss) ?_
    refine GL_rd (v := .bool _) (wn_none rfl) rfl (rd_pickF rfl rfl rfl) ?_
    refine GL_rd (v := .bool _) (wn_none rfl) rfl (rd_move rfl rfl) ?_
    refine GL_split (t := 24) (b := _) rfl ?_ ?_
    ·intro hb4; (try simp only [decide_eq_true_eq, decide_eq_false_iff_not, Bool.not_eq_true', Bool.not_eq_false', Bool.not_eq_eq_eq_not, Bool.not_true, Bool.not_false, Int.not_lt, Int.not_le] at hb4)
     have hbad : t < 1 ∨ b < 1 ∨ 2048 < b ∨ c < 1 ∨ a < 1 := by have := hb4; omega
     refine GL_pass (nw_off rfl rfl rfl rfl rfl) rfl ?_
     refine GL_pass (nw_off rfl rfl rfl rfl rfl) rfl ?_
     refine GL_rd (v := .bool _) (wn_none rfl) rfl (rd_pickT rfl rfl rfl) ?_
     refine GL_nil ?_
     refine GW_true rfl ?_
     refine GW_seq ?_
     refine GW_region ?_
     refine GL_rd (wn_none rfl) rfl (rd_buildS (L := (plC ⟨0, 0, 0, 0⟩)) rfl tz23 pl23 (by kernel_rfl)) ?_
     refine GL_store (i := 0) (wn_none rfl) rfl rfl rfl rfl ts23 rfl rfl (oneC rfl (oneC rfl (oneC rfl (oneC rfl one0)))) hp rfl (by first | exact Nat.le_of_ble_eq_true rfl | simp [bys_length, *]) rfl ?_
     intro w hp
     refine GL_rd (v := .int _ _) (wn_none rfl) rfl (rd_assign rfl rfl) ?_
     refine GL_nil ?_
     refine GW_ret ?_
     exact ⟨_, res2 Try.results9 (rv_cell rfl rfl Try.underlying23 rfl ts23 rfl (hp.get 0 rfl)) (rv_tmp (v := .int _ _) rfl rfl), by rw [planQ, if_pos hbad]; rfl, hp.mods⟩
    ·intro hb4; (try simp only [decide_eq_true_eq, decide_eq_false_iff_not, Bool.not_eq_true', Bool.not_eq_false', Bool.not_eq_eq_eq_not, Bool.not_true, Bool.not_false, Int.not_lt, Int.not_le] at hb4)
     have q24 := hb4
     refine GL_rd (v := .int _ _) (wn_on rfl rfl rfl rfl) rfl (rd_move rfl rfl) ?_
     refine GL_rd (wn_on rfl rfl rfl rfl) rfl (rd_bin rfl rfl rfl bo_lss) ?_
     refine GL_rd (v := .bool _) (wn_none rfl) rfl (rd_pickF rfl rfl rfl) ?_
     refine GL_nil ?_
     refine GW_cond rfl (fun hb5 => ?_) (fun hb5 => ?_)
     ·(try simp only [decide_eq_true_eq, decide_eq_false_iff_not, Bool.not_eq_true', Bool.not_eq_false', Bool.not_eq_eq_eq_not, Bool.not_true, Bool.not_false, Int.not_lt, Int.not_le] at hb5)
      have hbad : t < 1 ∨ b < 1 ∨ 2048 < b ∨ c < 1 ∨ a < 1 := by have := hb5; omega
      refine GW_seq ?_
      refine GW_region ?_
      refine GL_rd (wn_none rfl) rfl (rd_buildS (L := (plC ⟨0, 0, 0, 0⟩)) rfl tz23 pl23 (by kernel_rfl)) ?_
      refine GL_store (i := 0) (wn_none rfl) rfl rfl rfl rfl ts23 rfl rfl (oneC rfl (oneC rfl (oneC rfl (oneC rfl one0)))) hp rfl (by first | exact Nat.le_of_ble_eq_true rfl | simp [bys_length, *]) rfl ?_
      intro w hp
      refine GL_rd (v := .int _ _) (wn_none rfl) rfl (rd_assign rfl rfl) ?_
      refine GL_nil ?_
      refine GW_ret ?_
      exact ⟨_, res2 Try.results9 (rv_cell rfl rfl Try.underlying23 rfl ts23 rfl (hp.get 0 rfl)) (rv_tmp (v := .int _ _) rfl rfl), by rw [planQ, if_pos hbad]; rfl, hp.mods⟩
     ·(try simp only [decide_eq_true_eq, decide_eq_false_iff_not, Bool.not_eq_true', Bool.not_eq_false', Bool.not_eq_eq_eq_not, Bool.not_true, Bool.not_false, Int.not_lt, Int.not_le] at hb5)
      have hok : ¬ (t < 1 ∨ b < 1 ∨ 2048 < b ∨ c < 1 ∨ a < 1) := by have := hb5; omega
      refine GW_skip ?_
      refine GW_seq ?_
      refine GW_seq ?_
      refine GW_region ?_
      refine GL_rd (v := .int _ _) (wn_none rfl) rfl (rd_move rfl rfl) ?_
      refine GL_rd (wn_none rfl) rfl (rd_bin rfl rfl rfl bo_gtr) ?_
      refine GL_nil ?_
      refine GW_cond rfl (fun hb6 => ?_) (fun hb6 => ?_)
      ·(try simp only [decide_eq_true_eq, decide_eq_false_iff_not, Bool.not_eq_true', Bool.not_eq_false', Bool.not_eq_eq_eq_not, Bool.not_true, Bool.not_false, Int.not_lt, Int.not_le] at hb6)
       refine GW_seq ?_
       refine GW_region ?_
       refine GL_rd (wn_none rfl) rfl (rd_buildS (L := (plC ⟨0, 0, 0, 0⟩)) rfl tz23 pl23 (by kernel_rfl)) ?_
       refine GL_store (i := 0) (wn_none rfl) rfl rfl rfl rfl ts23 rfl rfl (oneC rfl (oneC rfl (oneC rfl (oneC rfl one0)))) hp rfl (by first | exact Nat.le_of_ble_eq_true rfl | simp [bys_length, *]) rfl ?_
       intro w hp
       refine GL_rd (v := .int _ _) (wn_none rfl) rfl (rd_assign rfl rfl) ?_
       refine GL_nil ?_
       refine GW_ret ?_
       exact ⟨_, res2 Try.results9 (rv_cell rfl rfl Try.underlying23 rfl ts23 rfl (hp.get 0 rfl)) (rv_tmp (v := .int _ _) rfl rfl), by rw [planQ, if_neg hok, if_pos (by omega)]; rfl, hp.mods⟩
      ·(try simp only [decide_eq_true_eq, decide_eq_false_iff_not, Bool.not_eq_true', Bool.not_eq_false', Bool.not_eq_eq_eq_not, Bool.not_true, Bool.not_false, Int.not_lt, Int.not_le] at hb6)
       refine GW_skip ?_
       refine GW_seq ?_
       refine GW_region ?_
       refine GL_rd (v := .int _ _) (wn_none rfl) rfl (rd_move rfl rfl) ?_
       refine GL_rd (v := .int _ _) (wn_none rfl) rfl (rd_move rfl rfl) ?_
       refine GL_call (wn_none rfl) rfl rfl (chk_Count b _ (by omega)) rfl ?_
       rintro v0 w ⟨hv, hk⟩
       have hp := hp.comp hk
       obtain rfl : v0 = .int .i64 ((b - 1) / 256 + 1) := hv.trans (by rw [cntZ, if_neg (by omega)])
       refine GL_rd (wn_none rfl) rfl (rd_bin rfl rfl rfl (bo_mul64 (mul_in (by omega) (by omega)))) ?_
       refine GL_rd (v := .int _ _) (wn_none rfl) rfl (rd_move rfl rfl) ?_
       refine GL_rd (v := .int _ _) (wn_none rfl) rfl (rd_move rfl rfl) ?_
       refine GL_rd (v := .int _ _) (wn_none rfl) rfl (rd_move rfl rfl) ?_
       refine GL_rd (wn_none rfl) rfl (rd_buildS (L := (plC ⟨t * ((b - 1) / 256 + 1), t, c, a⟩)) rfl tz23 pl23 (by kernel_rfl)) ?_
       refine GL_store (i := 0) (wn_none rfl) rfl rfl rfl rfl ts23 rfl rfl (oneC rfl (oneC rfl (oneC rfl (oneC rfl one0)))) hp rfl (by first | exact Nat.le_of_ble_eq_true rfl | simp [bys_length, *]) rfl ?_
       intro w hp
       refine GL_rd (v := .int _ _) (wn_none rfl) rfl (rd_assign rfl rfl) ?_
       refine GL_nil ?_
       refine GW_ret ?_
       exact ⟨_, res2 Try.results9 (rv_cell rfl rfl Try.underlying23 rfl ts23 rfl (hp.get 0 rfl)) (rv_tmp (v := .int _ _) rfl rfl), by rw [planQ, if_neg hok, if_neg (by omega)]; rfl, hp.mods⟩
theorem ref_right (p : Pl) (w0 : World) : Does Try.prog 44 #[.agg ⟨plC p⟩] w0 fun v w' => v = .bool (planB p) ∧ Hp w0 [] w' [] := by
 refine does_of (l := [.agg ⟨plC p⟩]) Try.func44 (by kernel_rfl) rfl Try.ntmps44 rfl rfl (by kernel_rfl) ?_
 have hp := Hp.refl w0 []
 refine GW_seq ?_
 refine GW_region ?_
 refine GL_box (wn_none rfl) rfl rfl rfl rfl hp ?_
 intro g w hp
 refine GL_rd (v := .bool _) (wn_none rfl) rfl (rd_assign rfl rfl) ?_
 refine GL_nil ?_
 refine GW_seq ?_
 refine GW_region ?_
 refine GL_rd (wn_none rfl) rfl (rd_field rfl rfl fa23_0 _ rfl) ?_
 refine GL_rd (wn_none rfl) rfl (rd_load rfl rfl Try.underlying3 rfl ((cell_of_cells (hp.get 0 rfl) _).trans rfl)) ?_
 refine GL_rd (wn_none rfl) rfl (rd_bin rfl rfl rfl bo_geq) ?_
 refine GL_rd (v := .bool _) (wn_none rfl) rfl (rd_move rfl rfl) ?_
 refine GL_split (t := 6) (b := _) rfl ?_ ?_
 ·intro hb; (try simp only [decide_eq_true_eq, decide_eq_false_iff_not, Bool.not_eq_true', Bool.not_eq_false', Bool.not_eq_eq_eq_not, Bool.not_true, Bool.not_false, Int.not_lt, Int.not_le] at hb)
  have q6 := hb
  refine GL_rd (wn_on rfl rfl rfl rfl) rfl (rd_field rfl rfl fa23_0 _ rfl) ?_
  refine GL_rd (wn_on rfl rfl rfl rfl) rfl (rd_load rfl rfl Try.underlying3 rfl ((cell_of_cells (hp.get 0 rfl) _).trans rfl)) ?_
  refine GL_rd (wn_on rfl rfl rfl rfl) rfl (rd_bin rfl rfl rfl bo_leq) ?_
  refine GL_rd (v := .bool _) (wn_none rfl) rfl (rd_pickT rfl rfl rfl) ?_
  refine GL_rd (v := .bool _) (wn_none rfl) rfl (rd_move rfl rfl) ?_
  refine GL_split (t := 11) (b := _) rfl ?_ ?_
  ·intro hb2; (try simp only [decide_eq_true_eq, decide_eq_false_iff_not, Bool.not_eq_true', Bool.not_eq_false', Bool.not_eq_eq_eq_not, Bool.not_true, Bool.not_false, Int.not_lt, Int.not_le] at hb2)
   have q11 := hb2
   refine GL_rd (wn_on rfl rfl rfl rfl) rfl (rd_field rfl rfl fa23_1 _ rfl) ?_
   refine GL_rd (wn_on rfl rfl rfl rfl) rfl (rd_load rfl rfl Try.underlying3 rfl ((cell_of_cells (hp.get 0 rfl) _).trans rfl)) ?_
   refine GL_rd (wn_on rfl rfl rfl rfl) rfl (rd_bin rfl rfl rfl bo_geq) ?_
   refine GL_rd (v := .bool _) (wn_none rfl) rfl (rd_pickT rfl rfl rfl) ?_
   refine GL_rd (v := .bool _) (wn_none rfl) rfl (rd_move rfl rfl) ?_
   refine GL_split (t := 16) (b := _) rfl ?_ ?_
   ·intro hb3; (try simp only [decide_eq_true_eq, decide_eq_false_iff_not, Bool.not_eq_true', Bool.not_eq_false', Bool.not_eq_eq_eq_not, Bool.not_true, Bool.not_false, Int.not_lt, Int.not_le] at hb3)
    have q16 := hb3
    refine GL_rd (wn_on rfl rfl rfl rfl) rfl (rd_field rfl rfl fa23_1 _ rfl) ?_
    refine GL_rd (wn_on rfl rfl rfl rfl) rfl (rd_load rfl rfl Try.underlying3 rfl ((cell_of_cells (hp.get 0 rfl) _).trans rfl)) ?_
    refine GL_rd (wn_on rfl rfl rfl rfl) rfl (rd_bin rfl rfl rfl bo_leq) ?_
    refine GL_rd (v := .bool _) (wn_none rfl) rfl (rd_pickT rfl rfl rfl) ?_
    refine GL_rd (v := .bool _) (wn_none rfl) rfl (rd_move rfl rfl) ?_
    refine GL_split (t := 21) (b := _) rfl ?_ ?_
    ·intro hb4; (try simp only [decide_eq_true_eq, decide_eq_false_iff_not, Bool.not_eq_true', Bool.not_eq_false', Bool.not_eq_eq_eq_not, Bool.not_true, Bool.not_false, Int.not_lt, Int.not_le] at hb4)
     have q21 := hb4
     refine GL_rd (wn_on rfl rfl rfl rfl) rfl (rd_field rfl rfl fa23_2 _ rfl) ?_
     refine GL_rd (wn_on rfl rfl rfl rfl) rfl (rd_load rfl rfl Try.underlying3 rfl ((cell_of_cells (hp.get 0 rfl) _).trans rfl)) ?_
     refine GL_rd (wn_on rfl rfl rfl rfl) rfl (rd_bin rfl rfl rfl bo_geq) ?_
     refine GL_rd (v := .bool _) (wn_none rfl) rfl (rd_pickT rfl rfl rfl) ?_
     refine GL_rd (v := .bool _) (wn_none rfl) rfl (rd_move rfl rfl) ?_
     refine GL_split (t := 26) (b := _) rfl ?_ ?_
     ·intro hb5; (try simp only [decide_eq_true_eq, decide_eq_false_iff_not, Bool.not_eq_true', Bool.not_eq_false', Bool.not_eq_eq_eq_not, Bool.not_true, Bool.not_false, Int.not_lt, Int.not_le] at hb5)
      have q26 := hb5
      refine GL_rd (wn_on rfl rfl rfl rfl) rfl (rd_field rfl rfl fa23_2 _ rfl) ?_
      refine GL_rd (wn_on rfl rfl rfl rfl) rfl (rd_load rfl rfl Try.underlying3 rfl ((cell_of_cells (hp.get 0 rfl) _).trans rfl)) ?_
      refine GL_rd (wn_on rfl rfl rfl rfl) rfl (rd_bin rfl rfl rfl bo_leq) ?_
      refine GL_rd (v := .bool _) (wn_none rfl) rfl (rd_pickT rfl rfl rfl) ?_
      refine GL_rd (v := .bool _) (wn_none rfl) rfl (rd_move rfl rfl) ?_
      refine GL_split (t := 31) (b := _) rfl ?_ ?_
      ·intro hb6; (try simp only [decide_eq_true_eq, decide_eq_false_iff_not, Bool.not_eq_true', Bool.not_eq_false', Bool.not_eq_eq_eq_not, Bool.not_true, Bool.not_false, Int.not_lt, Int.not_le] at hb6)
       have q31 := hb6
       refine GL_rd (wn_on rfl rfl rfl rfl) rfl (rd_field rfl rfl fa23_3 _ rfl) ?_
       refine GL_rd (wn_on rfl rfl rfl rfl) rfl (rd_load rfl rfl Try.underlying3 rfl ((cell_of_cells (hp.get 0 rfl) _).trans rfl)) ?_
       refine GL_rd (wn_on rfl rfl rfl rfl) rfl (rd_bin rfl rfl rfl bo_geq) ?_
       refine GL_rd (v := .bool _) (wn_none rfl) rfl (rd_pickT rfl rfl rfl) ?_
       refine GL_rd (v := .bool _) (wn_none rfl) rfl (rd_move rfl rfl) ?_
       refine GL_split (t := 36) (b := _) rfl ?_ ?_
       ·intro hb7; (try simp only [decide_eq_true_eq, decide_eq_false_iff_not, Bool.not_eq_true', Bool.not_eq_false', Bool.not_eq_eq_eq_not, Bool.not_true, Bool.not_false, Int.not_lt, Int.not_le] at hb7)
        have q36 := hb7
        refine GL_rd (wn_on rfl rfl rfl rfl) rfl (rd_field rfl rfl fa23_3 _ rfl) ?_
        refine GL_rd (wn_on rfl rfl rfl rfl) rfl (rd_load rfl rfl Try.underlying3 rfl ((cell_of_cells (hp.get 0 rfl) _).trans rfl)) ?_
        refine GL_rd (wn_on rfl rfl rfl rfl) rfl (rd_bin rfl rfl rfl bo_leq) ?_
        refine GL_rd (v := .bool _) (wn_none rfl) rfl (rd_pickT rfl rfl rfl) ?_
        refine GL_rd (v := .bool _) (wn_none rfl) rfl (rd_assign rfl rfl) ?_
        refine GL_nil ?_
        refine GW_ret ?_
        exact ⟨_, res1 Try.results44 (rv_tmp (v := .bool _) rfl rfl), by rw [planB_last (by omega)], hp.mods⟩
       ·intro hb7; (try simp only [decide_eq_true_eq, decide_eq_false_iff_not, Bool.not_eq_true', Bool.not_eq_false', Bool.not_eq_eq_eq_not, Bool.not_true, Bool.not_false, Int.not_lt, Int.not_le] at hb7)
        have hno : planB p = false := by rw [planB_not]; intro q; have := hb7; omega
        refine GL_pass (nw_off rfl rfl rfl rfl rfl) rfl ?_
        refine GL_pass (nw_off rfl rfl rfl rfl rfl) rfl ?_
        refine GL_pass (nw_off rfl rfl rfl rfl rfl) rfl ?_
        refine GL_rd (v := .bool _) (wn_none rfl) rfl (rd_pickF rfl rfl rfl) ?_
        refine GL_rd (v := .bool _) (wn_none rfl) rfl (rd_assign rfl rfl) ?_
        refine GL_nil ?_
        refine GW_ret ?_
        exact ⟨_, res1 Try.results44 (rv_tmp (v := .bool _) rfl rfl), by rw [hno], hp.mods⟩
      ·intro hb6; (try simp only [decide_eq_true_eq, decide_eq_false_iff_not, Bool.not_eq_true', Bool.not_eq_false', Bool.not_eq_eq_eq_not, Bool.not_true, Bool.not_false, Int.not_lt, Int.not_le] at hb6)
       have hno : planB p = false := by rw [planB_not]; intro q; have := hb6; omega
       refine GL_pass (nw_off rfl rfl rfl rfl rfl) rfl ?_
       refine GL_pass (nw_off rfl rfl rfl rfl rfl) rfl ?_
       refine GL_pass (nw_off rfl rfl rfl rfl rfl) rfl ?_
       refine GL_rd (v := .bool _) (wn_none rfl) rfl (rd_pickF rfl rfl rfl) ?_
       refine GL_rd (v := .bool _) (wn_none rfl) rfl (rd_move rfl rfl) ?_
       refine GL_pass (nw_off rfl rfl rfl rfl rfl) rfl ?_
       refine GL_pass (nw_off rfl rfl rfl rfl rfl) rfl ?_
       refine GL_pass (nw_off rfl rfl rfl rfl rfl) rfl ?_
       refine GL_rd (v := .bool _) (wn_none rfl) rfl (rd_pickF rfl rfl rfl) ?_
       refine GL_rd (v := .bool _) (wn_none rfl) rfl (rd_assign rfl rfl) ?_
       refine GL_nil ?_
       refine GW_ret ?_
       exact ⟨_, res1 Try.results44 (rv_tmp (v := .bool _) rfl rfl), by rw [hno], hp.mods⟩
     ·intro hb5; (try simp only [decide_eq_true_eq, decide_eq_false_iff_not, Bool.not_eq_true', Bool.not_eq_false', Bool.not_eq_eq_eq_not, Bool.not_true, Bool.not_false, Int.not_lt, Int.not_le] at hb5)
      have hno : planB p = false := by rw [planB_not]; intro q; have := hb5; omega
      refine GL_pass (nw_off rfl rfl rfl rfl rfl) rfl ?_
      refine GL_pass (nw_off rfl rfl rfl rfl rfl) rfl ?_
      refine GL_pass (nw_off rfl rfl rfl rfl rfl) rfl ?_
      refine GL_rd (v := .bool _) (wn_none rfl) rfl (rd_pickF rfl rfl rfl) ?_
      refine GL_rd (v := .bool _) (wn_none rfl) rfl (rd_move rfl rfl) ?_
      refine GL_pass (nw_off rfl rfl rfl rfl rfl) rfl ?_
      refine GL_pass (nw_off rfl rfl rfl rfl rfl) rfl ?_
      refine GL_pass (nw_off rfl rfl rfl rfl rfl) rfl ?_
      refine GL_rd (v := .bool _) (wn_none rfl) rfl (rd_pickF rfl rfl rfl) ?_
      refine GL_rd (v := .bool _) (wn_none rfl) rfl (rd_move rfl rfl) ?_
      refine GL_pass (nw_off rfl rfl rfl rfl rfl) rfl ?_
      refine GL_pass (nw_off rfl rfl rfl rfl rfl) rfl ?_
      refine GL_pass (nw_off rfl rfl rfl rfl rfl) rfl ?_
      refine GL_rd (v := .bool _) (wn_none rfl) rfl (rd_pickF rfl rfl rfl) ?_
      refine GL_rd (v := .bool _) (wn_none rfl) rfl (rd_assign rfl rfl) ?_
      refine GL_nil ?_
      refine GW_ret ?_
      exact ⟨_, res1 Try.results44 (rv_tmp (v := .bool _) rfl rfl), by rw [hno], hp.mods⟩
    ·intro hb4; (try simp only [decide_eq_true_eq, decide_eq_false_iff_not, Bool.not_eq_true', Bool.not_eq_false', Bool.not_eq_eq_eq_not, Bool.not_true, Bool.not_false, Int.not_lt, Int.not_le] at hb4)
     have hno : planB p = false := by rw [planB_not]; intro q; have := hb4; omega
     refine GL_pass (nw_off rfl rfl rfl rfl rfl) rfl ?_
     refine GL_pass (nw_off rfl rfl rfl rfl rfl) rfl ?_
     refine GL_pass (nw_off rfl rfl rfl rfl rfl) rfl ?_
     refine GL_rd (v := .bool _) (wn_none rfl) rfl (rd_pickF rfl rfl rfl) ?_
     refine GL_rd (v := .bool _) (wn_none rfl) rfl (rd_move rfl rfl) ?_
     refine GL_pass (nw_off rfl rfl rfl rfl rfl) rfl ?_
     refine GL_pass (nw_off rfl rfl rfl rfl rfl) rfl ?_
     refine GL_pass (nw_off rfl rfl rfl rfl rfl) rfl ?_
     refine GL_rd (v := .bool _) (wn_none rfl) rfl (rd_pickF rfl rfl rfl) ?_
     refine GL_rd (v := .bool _) (wn_none rfl) rfl (rd_move rfl rfl) ?_
     refine GL_pass (nw_off rfl rfl rfl rfl rfl) rfl ?_
     refine GL_pass (nw_off rfl rfl rfl rfl rfl) rfl ?_
     refine GL_pass (nw_off rfl rfl rfl rfl rfl) rfl ?_
     refine GL_rd (v := .bool _) (wn_none rfl) rfl (rd_pickF rfl rfl rfl) ?_
     refine GL_rd (v := .bool _) (wn_none rfl) rfl (rd_move rfl rfl) ?_
     refine GL_pass (nw_off rfl rfl rfl rfl rfl) rfl ?_
     refine GL_pass (nw_off rfl rfl rfl rfl rfl) rfl ?_
     refine GL_pass (nw_off rfl rfl rfl rfl rfl) rfl ?_
     refine GL_rd (v := .bool _) (wn_none rfl) rfl (rd_pickF rfl rfl rfl) ?_
     refine GL_rd (v := .bool _) (wn_none rfl) rfl (rd_assign rfl rfl) ?_
     refine GL_nil ?_
     refine GW_ret ?_
     exact ⟨_, res1 Try.results44 (rv_tmp (v := .bool _) rfl rfl), by rw [hno], hp.mods⟩
   ·intro hb3; (try simp only [decide_eq_true_eq, decide_eq_false_iff_not, Bool.not_eq_true', Bool.not_eq_false', Bool.not_eq_eq_eq_not, Bool.not_true, Bool.not_false, Int.not_lt, Int.not_le] at hb3)
    have hno : planB p = false := by rw [planB_not]; intro q; have := hb3; omega
    refine GL_pass (nw_off rfl rfl rfl rfl rfl) rfl ?_
    refine GL_pass (nw_off rfl rfl rfl rfl rfl) rfl ?_
    refine GL_pass (nw_off rfl rfl rfl rfl rfl) rfl ?_
    refine GL_rd (v := .bool _) (wn_none rfl) rfl (rd_pickF rfl rfl rfl) ?_
    refine GL_rd (v := .bool _) (wn_none rfl) rfl (rd_move rfl rfl) ?_
    refine GL_pass (nw_off rfl rfl rfl rfl rfl) rfl ?_
    refine GL_pass (nw_off rfl rfl rfl rfl rfl) rfl ?_
    refine GL_pass (nw_off rfl rfl rfl rfl rfl) rfl ?_
    refine GL_rd (v := .bool _) (wn_none rfl) rfl (rd_pickF rfl rfl rfl) ?_
    refine GL_rd (v := .bool _) (wn_none rfl) rfl (rd_move rfl rfl) ?_
    refine GL_pass (nw_off rfl rfl rfl rfl rfl) rfl ?_
    refine GL_pass (nw_off rfl rfl rfl rfl rfl) rfl ?_
    refine GL_pass (nw_off rfl rfl rfl rfl rfl) rfl ?_
    refine GL_rd (v := .bool _) (wn_none rfl) rfl (rd_pickF rfl rfl rfl) ?_
    refine GL_rd (v := .bool _) (wn_none rfl) rfl (rd_move rfl rfl) ?_
    refine GL_pass (nw_off rfl rfl rfl rfl rfl) rfl ?_
    refine GL_pass (nw_off rfl rfl rfl rfl rfl) rfl ?_
    refine GL_pass (nw_off rfl rfl rfl rfl rfl) rfl ?_
    refine GL_rd (v := .bool _) (wn_none rfl) rfl (rd_pickF rfl rfl rfl) ?_
    refine GL_rd (v := .bool _) (wn_none rfl) rfl (rd_move rfl rfl) ?_
    refine GL_pass (nw_off rfl rfl rfl rfl rfl) rfl ?_
    refine GL_pass (nw_off rfl rfl rfl rfl rfl) rfl ?_
    refine GL_pass (nw_off rfl rfl rfl rfl rfl) rfl ?_
    refine GL_rd (v := .bool _) (wn_none rfl) rfl (rd_pickF rfl rfl rfl) ?_
    refine GL_rd (v := .bool _) (wn_none rfl) rfl (rd_assign rfl rfl) ?_
    refine GL_nil ?_
    refine GW_ret ?_
    exact ⟨_, res1 Try.results44 (rv_tmp (v := .bool _) rfl rfl), by rw [hno], hp.mods⟩
  ·intro hb2; (try simp only [decide_eq_true_eq, decide_eq_false_iff_not, Bool.not_eq_true', Bool.not_eq_false', Bool.not_eq_eq_eq_not, Bool.not_true, Bool.not_false, Int.not_lt, Int.not_le] at hb2)
   have hno : planB p = false := by rw [planB_not]; intro q; have := hb2; omega
   refine GL_pass (nw_off rfl rfl rfl rfl rfl) rfl ?_
   refine GL_pass (nw_off rfl rfl rfl rfl rfl) rfl ?_
   refine GL_pass (nw_off rfl rfl rfl rfl rfl) rfl ?_
   refine GL_rd (v := .bool _) (wn_none rfl) rfl (rd_pickF rfl rfl rfl) ?_
   refine GL_rd (v := .bool _) (wn_none rfl) rfl (rd_move rfl rfl) ?_
   refine GL_pass (nw_off rfl rfl rfl rfl rfl) rfl ?_
   refine GL_pass (nw_off rfl rfl rfl rfl rfl) rfl ?_
   refine GL_pass (nw_off rfl rfl rfl rfl rfl) rfl ?_
   refine GL_rd (v := .bool _) (wn_none rfl) rfl (rd_pickF rfl rfl rfl) ?_
   refine GL_rd (v := .bool _) (wn_none rfl) rfl (rd_move rfl rfl) ?_
   refine GL_pass (nw_off rfl rfl rfl rfl rfl) rfl ?_
   refine GL_pass (nw_off rfl rfl rfl rfl rfl) rfl ?_
   refine GL_pass (nw_off rfl rfl rfl rfl rfl) rfl ?_
   refine GL_rd (v := .bool _) (wn_none rfl) rfl (rd_pickF rfl rfl rfl) ?_
   refine GL_rd (v := .bool _) (wn_none rfl) rfl (rd_move rfl rfl) ?_
   refine GL_pass (nw_off rfl rfl rfl rfl rfl) rfl ?_
   refine GL_pass (nw_off rfl rfl rfl rfl rfl) rfl ?_
   refine GL_pass (nw_off rfl rfl rfl rfl rfl) rfl ?_
   refine GL_rd (v := .bool _) (wn_none rfl) rfl (rd_pickF rfl rfl rfl) ?_
   refine GL_rd (v := .bool _) (wn_none rfl) rfl (rd_move rfl rfl) ?_
   refine GL_pass (nw_off rfl rfl rfl rfl rfl) rfl ?_
   refine GL_pass (nw_off rfl rfl rfl rfl rfl) rfl ?_
   refine GL_pass (nw_off rfl rfl rfl rfl rfl) rfl ?_
   refine GL_rd (v := .bool _) (wn_none rfl) rfl (rd_pickF rfl rfl rfl) ?_
   refine GL_rd (v := .bool _) (wn_none rfl) rfl (rd_move rfl rfl) ?_
   refine GL_pass (nw_off rfl rfl rfl rfl rfl) rfl ?_
   refine GL_pass (nw_off rfl rfl rfl rfl rfl) rfl ?_
   refine GL_pass (nw_off rfl rfl rfl rfl rfl) rfl ?_
   refine GL_rd (v := .bool _) (wn_none rfl) rfl (rd_pickF rfl rfl rfl) ?_
   refine GL_rd (v := .bool _) (wn_none rfl) rfl (rd_assign rfl rfl) ?_
   refine GL_nil ?_
   refine GW_ret ?_
   exact ⟨_, res1 Try.results44 (rv_tmp (v := .bool _) rfl rfl), by rw [hno], hp.mods⟩
 ·intro hb; (try simp only [decide_eq_true_eq, decide_eq_false_iff_not, Bool.not_eq_true', Bool.not_eq_false', Bool.not_eq_eq_eq_not, Bool.not_true, Bool.not_false, Int.not_lt, Int.not_le] at hb)
  have hno : planB p = false := by rw [planB_not]; intro q; have := hb; omega
  refine GL_pass (nw_off rfl rfl rfl rfl rfl) rfl ?_
  refine GL_pass (nw_off rfl rfl rfl rfl rfl) rfl ?_
  refine GL_pass (nw_off rfl rfl rfl rfl rfl) rfl ?_
  refine GL_rd (v := .bool _) (wn_none rfl) rfl (rd_pickF rfl rfl rfl) ?_
  refine GL_rd (v := .bool _) (wn_none rfl) rfl (rd_move rfl rfl) ?_
  refine GL_pass (nw_off rfl rfl rfl rfl rfl) rfl ?_
  refine GL_pass (nw_off rfl rfl rfl rfl rfl) rfl ?_
  refine GL_pass (nw_off rfl rfl rfl rfl rfl) rfl ?_
  refine GL_rd (v := .bool _) (wn_none rfl) rfl (rd_pickF rfl rfl rfl) ?_
  refine GL_rd (v := .bool _) (wn_none rfl) rfl (rd_move rfl rfl) ?_
  refine GL_pass (nw_off rfl rfl rfl rfl rfl) rfl ?_
  refine GL_pass (nw_off rfl rfl rfl rfl rfl) rfl ?_
  refine GL_pass (nw_off rfl rfl rfl rfl rfl) rfl ?_
  refine GL_rd (v := .bool _) (wn_none rfl) rfl (rd_pickF rfl rfl rfl) ?_
  refine GL_rd (v := .bool _) (wn_none rfl) rfl (rd_move rfl rfl) ?_
  refine GL_pass (nw_off rfl rfl rfl rfl rfl) rfl ?_
  refine GL_pass (nw_off rfl rfl rfl rfl rfl) rfl ?_
  refine GL_pass (nw_off rfl rfl rfl rfl rfl) rfl ?_
  refine GL_rd (v := .bool _) (wn_none rfl) rfl (rd_pickF rfl rfl rfl) ?_
  refine GL_rd (v := .bool _) (wn_none rfl) rfl (rd_move rfl rfl) ?_
  refine GL_pass (nw_off rfl rfl rfl rfl rfl) rfl ?_
  refine GL_pass (nw_off rfl rfl rfl rfl rfl) rfl ?_
  refine GL_pass (nw_off rfl rfl rfl rfl rfl) rfl ?_
  refine GL_rd (v := .bool _) (wn_none rfl) rfl (rd_pickF rfl rfl rfl) ?_
  refine GL_rd (v := .bool _) (wn_none rfl) rfl (rd_move rfl rfl) ?_
  refine GL_pass (nw_off rfl rfl rfl rfl rfl) rfl ?_
  refine GL_pass (nw_off rfl rfl rfl rfl rfl) rfl ?_
  refine GL_pass (nw_off rfl rfl rfl rfl rfl) rfl ?_
  refine GL_rd (v := .bool _) (wn_none rfl) rfl (rd_pickF rfl rfl rfl) ?_
  refine GL_rd (v := .bool _) (wn_none rfl) rfl (rd_move rfl rfl) ?_
  refine GL_pass (nw_off rfl rfl rfl rfl rfl) rfl ?_
  refine GL_pass (nw_off rfl rfl rfl rfl rfl) rfl ?_
  refine GL_pass (nw_off rfl rfl rfl rfl rfl) rfl ?_
  refine GL_rd (v := .bool _) (wn_none rfl) rfl (rd_pickF rfl rfl rfl) ?_
  refine GL_rd (v := .bool _) (wn_none rfl) rfl (rd_assign rfl rfl) ?_
  refine GL_nil ?_
  refine GW_ret ?_
  exact ⟨_, res1 Try.results44 (rv_tmp (v := .bool _) rfl rfl), by rw [hno], hp.mods⟩
theorem ref_plCheck (p : Pl) (w0 : World) : Does Try.prog 11 #[.agg ⟨plC p⟩] w0 fun v w' => v = .int .i64 (planC p) ∧ Hp w0 [] w' [] := by
 refine does_of (l := [.agg ⟨plC p⟩]) Try.func11 (by kernel_rfl) rfl Try.ntmps11 rfl rfl (by kernel_rfl) ?_
 have hp := Hp.refl w0 []
 refine GW_seq ?_
 refine GW_region ?_
 refine GL_box (wn_none rfl) rfl rfl rfl rfl hp ?_
 intro g w hp
 refine GL_rd (v := .int _ _) (wn_none rfl) rfl (rd_assign rfl rfl) ?_
 refine GL_nil ?_
 refine GW_seq ?_
 refine GW_seq ?_
 refine GW_region ?_
 refine GL_rd (wn_none rfl) rfl (rd_loadC rfl rfl Try.underlying23 rfl ts23 (hp.get 0 rfl) (by first | (rw [bys_length]; first | exact a32_len _) | rfl | simp [bys_length, *])) ?_
 refine GL_call (wn_none rfl) rfl rfl (ref_right p _) rfl ?_
 rintro _ w ⟨rfl, hk⟩
 have hp := hp.comp hk
 refine GL_rd (wn_none rfl) rfl (rd_not rfl rfl) ?_
 refine GL_nil ?_
 refine GW_cond rfl (fun hb => ?_) (fun hb => ?_)
 ·(try simp only [decide_eq_true_eq, decide_eq_false_iff_not, Bool.not_eq_true', Bool.not_eq_false', Bool.not_eq_eq_eq_not, Bool.not_true, Bool.not_false, Int.not_lt, Int.not_le] at hb)
  have e : planC p = 2 := by rw [planC, hb]; rfl
  refine GW_seq ?_
  refine GW_region ?_
  refine GL_rd (v := .int _ _) (wn_none rfl) rfl (rd_assign rfl rfl) ?_
  refine GL_nil ?_
  refine GW_ret ?_
  exact ⟨_, res1 Try.results11 (rv_tmp (v := .int _ _) rfl rfl), by rw [e], hp.mods⟩
 ·(try simp only [decide_eq_true_eq, decide_eq_false_iff_not, Bool.not_eq_true', Bool.not_eq_false', Bool.not_eq_eq_eq_not, Bool.not_true, Bool.not_false, Int.not_lt, Int.not_le] at hb)
  have e : planC p = 0 := by rw [planC, hb]; rfl
  refine GW_skip ?_
  refine GW_seq ?_
  refine GW_region ?_
  refine GL_rd (v := .int _ _) (wn_none rfl) rfl (rd_assign rfl rfl) ?_
  refine GL_nil ?_
  refine GW_ret ?_
  exact ⟨_, res1 Try.results11 (rv_tmp (v := .int _ _) rfl rfl), by rw [e], hp.mods⟩
end Go.Proofs.Ytpagpmioopaciaa
