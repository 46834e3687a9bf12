/- Walks of functions of the program. -/
import Derived.Test.YtpagpmioopaciaaGFGua
import Derived.Test.YtpagpmioopaciaaGFName
import Derived.Test.YtpagpmioopaciaaGGuaM
set_option linter.unusedVariables false
set_option linter.unusedSimpArgs false
namespace Go.Proofs.Ytpagpmioopaciaa
open Go.Mo Go.RowKit
theorem sl_IndexF (sv : Value) (m : Nat) (l : List ByteArray) (x : ByteArray) (w0 : World) (hI : Sl w0 sv 1 m (l.map Value.string)) : Does Try.prog 86 #[sv, .string x] w0 fun v w' => ∃ r : Int, v = .int .i64 r ∧ ((r = -1 ∧ ¬ x ∈ l) ∨ ∃ i : Nat, r = (i : Int) ∧ i < l.length ∧ strAt l i = x ∧ ∀ j, j < i → ¬ strAt l j = x) ∧ Hp w0 [] w' [] := by
 obtain ⟨A, c, rfl⟩ := sl_shape hI
 have hlm : l.length = m := by have := hI.len; rw [List.length_map] at this; omega
 have hmle := hI.le
 refine does_of (l := [.slice A m c, .string x]) Try.func86 (by kernel_rfl) rfl Try.ntmps86 rfl rfl (by kernel_rfl) ?_
 have hp := Hp.refl w0 []
 refine GW_seq ?_
 refine GW_region ?_
 refine GL_rd (v := .int _ _) (wn_none rfl) rfl (rd_assign rfl rfl) ?_
 refine GL_nil ?_
 refine GW_seq ?_
 refine GW_seq ?_
 refine GW_region ?_
 refine GL_rd (v := .slice _ _ _) (wn_none rfl) rfl (rd_move rfl rfl) ?_
 refine GL_rd (wn_none rfl) rfl (rd_len rfl rfl Try.underlying62) ?_
 refine GL_rd (v := .int _ _) (wn_none rfl) rfl (rd_move rfl rfl) ?_
 refine GL_nil ?_
 refine GW_block ?_
 refine GW_loop ?_
 refine Lp_ind (α := Nat) (fun a_0 f_0 w' => match a_0 with | i => ∃ fz, f_0 = (upd (upd (upd (upd fz 0 (.slice A m c)) 1 (.string x)) 7 (.int .i64 (m : Int))) 8 (.int .i64 (i : Int))) ∧ Hp w0 [] w' [] ∧ (i ≤ m) ∧ (∀ j, j < i → ¬ strAt l j = x)) (fun a_0 => match a_0 with | i => m - i) ?_ 0 _ _ ?_
 ·rintro i f wz ⟨fz, rfl, hp, hi0, hok⟩ ihL0
  refine Lp_round ?_
  refine GW_seq ?_
  refine GW_region ?_
  refine GL_rd (wn_none rfl) rfl (rd_bin rfl rfl rfl bo_lss) ?_
  refine GL_nil ?_
  refine GW_seq ?_
  refine GW_cond rfl (fun hb => ?_) (fun hb => ?_)
  ·(try simp only [decide_eq_true_eq, decide_eq_false_iff_not, Bool.not_eq_true', Bool.not_eq_false', Bool.not_eq_eq_eq_not, Bool.not_true, Bool.not_false, Int.not_lt, Int.not_le] at hb)
   obtain ⟨gA, bA, rfl⟩ := hI.addr (by rw [List.length_map]; omega)
   refine GW_skip ?_
   refine GW_seq ?_
   refine GW_block ?_
   refine GW_seq ?_
   refine GW_region ?_
   refine GL_rd (v := .int _ _) (wn_none rfl) rfl (rd_move rfl rfl) ?_
   refine GL_rd (v := .int _ _) (wn_none rfl) rfl (rd_assign rfl rfl) ?_
   refine GL_nil ?_
   refine GW_seq ?_
   refine GW_region ?_
   refine GL_rd (v := .string _) (wn_none rfl) rfl (rd_move rfl rfl) ?_
   refine GL_rd (v := .slice _ _ _) (wn_none rfl) rfl (rd_move rfl rfl) ?_
   refine GL_rd (v := .int _ _) (wn_none rfl) rfl (rd_move rfl rfl) ?_
   refine GL_rd (wn_none rfl) rfl (rd_indexS (j := i) rfl rfl rfl Try.underlying62 ts9 rfl (by omega) _ rfl) ?_
   refine GL_rd (wn_none rfl) rfl (rd_load rfl rfl Try.underlying9 rfl ((hI.keep hp.mod).get _ _ (strAt_cell (by omega)))) ?_
   refine GL_rd (wn_none rfl) rfl (rd_bin rfl rfl rfl bo_seql) ?_
   refine GL_nil ?_
   refine GW_cond rfl (fun hb2 => ?_) (fun hb2 => ?_)
   ·(try simp only [decide_eq_true_eq, decide_eq_false_iff_not, Bool.not_eq_true', Bool.not_eq_false', Bool.not_eq_eq_eq_not, Bool.not_true, Bool.not_false, Int.not_lt, Int.not_le] at hb2)
    have heq := hb2
    refine GW_seq ?_
    refine GW_region ?_
    refine GL_rd (v := .int _ _) (wn_none rfl) rfl (rd_move rfl rfl) ?_
    refine GL_rd (v := .int _ _) (wn_none rfl) rfl (rd_assign rfl rfl) ?_
    refine GL_nil ?_
    refine GW_ret ?_
    exact ⟨_, res1 Try.results86 (rv_tmp (v := .int _ _) rfl rfl), _, rfl, .inr ⟨i, rfl, by omega, heq.symm, hok⟩, hp⟩
   ·(try simp only [decide_eq_true_eq, decide_eq_false_iff_not, Bool.not_eq_true', Bool.not_eq_false', Bool.not_eq_eq_eq_not, Bool.not_true, Bool.not_false, Int.not_lt, Int.not_le] at hb2)
    have hne := hb2
    refine GW_skip ?_
    refine GW_region ?_
    refine GL_rd (wn_none rfl) rfl (rd_bin rfl rfl rfl (bo_add64 (by omega))) ?_
    refine GL_rd (v := .int _ _) (wn_none rfl) rfl (rd_move rfl rfl) ?_
    refine GL_nil ?_
    exact ihL0 (i + 1) _ _ (by simp only []; omega) ⟨_, slots4 rfl rfl rfl rfl, hp, by omega, fun j hj => by rcases Nat.lt_succ_iff_lt_or_eq.1 hj with h | h; exact hok j h; subst h; exact fun e => hne e.symm⟩
  ·(try simp only [decide_eq_true_eq, decide_eq_false_iff_not, Bool.not_eq_true', Bool.not_eq_false', Bool.not_eq_eq_eq_not, Bool.not_true, Bool.not_false, Int.not_lt, Int.not_le] at hb)
   refine GW_exit ?_
   refine GW_seq ?_
   refine GW_region ?_
   refine GL_rd (v := .int _ _) (wn_none rfl) rfl (rd_assign rfl rfl) ?_
   refine GL_nil ?_
   refine GW_ret ?_
   obtain rfl : m = i := by omega
   have hno := no_take_str (i := m) (fun j hj _ => hok j hj)
   rw [List.take_of_length_le (by omega)] at hno
   exact ⟨_, res1 Try.results86 (rv_tmp (v := .int _ _) rfl rfl), _, rfl, .inl ⟨rfl, hno⟩, hp⟩
 ·refine ⟨_, slots4 rfl rfl rfl rfl, hp, Nat.zero_le _, fun j hj => absurd hj (by omega)⟩
theorem sl_HasS (sv : Value) (m : Nat) (l : List ByteArray) (x : ByteArray) (w0 : World) (hI : Sl w0 sv 1 m (l.map Value.string)) : Does Try.prog 84 #[sv, .string x] w0 fun v w' => v = .bool (decide (x ∈ l)) ∧ Hp w0 [] w' [] := by
 obtain ⟨A, c, rfl⟩ := sl_shape hI
 have hlm : l.length = m := by have := hI.len; rw [List.length_map] at this; omega
 have hmle := hI.le
 refine does_of (l := [.slice A m c, .string x]) Try.func84 (by kernel_rfl) rfl Try.ntmps84 rfl rfl (by kernel_rfl) ?_
 have hp := Hp.refl w0 []
 refine GW_seq ?_
 refine GW_region ?_
 refine GL_rd (v := .bool _) (wn_none rfl) rfl (rd_assign rfl rfl) ?_
 refine GL_nil ?_
 refine GW_seq ?_
 refine GW_region ?_
 refine GL_rd (v := .slice _ _ _) (wn_none rfl) rfl (rd_move rfl rfl) ?_
 refine GL_rd (v := .string _) (wn_none rfl) rfl (rd_move rfl rfl) ?_
 refine GL_call (wn_none rfl) rfl rfl (sl_IndexF _ m l x _ (hI.keep hp.mod)) rfl ?_
 rintro _ w ⟨r, rfl, hr, hk⟩
 have hp := hp.comp hk
 refine GL_rd (wn_none rfl) rfl (rd_bin rfl rfl rfl bo_geq) ?_
 refine GL_rd (v := .bool _) (wn_none rfl) rfl (rd_assign rfl rfl) ?_
 refine GL_nil ?_
 refine GW_ret ?_
 have hr2 : (r ≥ 0) ↔ x ∈ l := by rcases hr with ⟨rfl, hn⟩ | ⟨i, rfl, hi, he, _⟩; exact ⟨fun h => absurd h (by decide), fun h => absurd h hn⟩; exact ⟨fun _ => he ▸ mem_at (strAt_some hi), fun _ => by omega⟩
 exact ⟨_, res1 Try.results84 (rv_tmp (v := .bool _) rfl rfl), by rw [decide_eq_decide.2 hr2], hp⟩
theorem sl_CloneS (sv : Value) (m : Nat) (l : List ByteArray) (w0 : World) (hI : Sl w0 sv 1 m (l.map Value.string)) (hm : m ≤ 65535) : Does Try.prog 85 #[sv] w0 fun v w' => Hp w0 [] w' [.row 9 1 v m (l.map Value.string)] := by
 obtain ⟨A, c, rfl⟩ := sl_shape hI
 have hlm : l.length = m := by have := hI.len; rw [List.length_map] at this; omega
 have hmle := hI.le
 refine does_of (l := [.slice A m c]) Try.func85 (by kernel_rfl) rfl Try.ntmps85 rfl rfl (by kernel_rfl) ?_
 have hp := Hp.refl w0 []
 refine GW_seq ?_
 refine GW_region ?_
 refine GL_rd (v := .slice _ _ _) (wn_none rfl) rfl (rd_assign rfl rfl) ?_
 refine GL_nil ?_
 refine GW_seq ?_
 refine GW_seq ?_
 refine GW_region ?_
 refine GL_rd (v := .slice _ _ _) (wn_none rfl) rfl (rd_move rfl rfl) ?_
 refine GL_rd (wn_none rfl) rfl (rd_bin rfl rfl rfl (bo_slnil Try.underlying62)) ?_
 refine GL_nil ?_
 refine GW_cond rfl (fun hb => ?_) (fun hb => ?_)
 ·(try simp only [decide_eq_true_eq, decide_eq_false_iff_not, Bool.not_eq_true', Bool.not_eq_false', Bool.not_eq_eq_eq_not, Bool.not_true, Bool.not_false, Int.not_lt, Int.not_le] at hb)
  have hnil := hb
  refine GW_seq ?_
  refine GW_region ?_
  refine GL_rd (v := .slice _ _ _) (wn_none rfl) rfl (rd_assign rfl rfl) ?_
  refine GL_nil ?_
  refine GW_ret ?_
  obtain rfl : A = none := Option.isNone_iff_eq_none.1 hnil
  have e0 := sl_none hI
  obtain rfl : m = 0 := by have := congrArg List.length e0; rw [List.length_map] at this; simp at this; rw [this] at hlm; exact hlm.symm
  have hp := hp.mods.nilRow 9 1
  exact ⟨_, res1 Try.results85 (rv_tmp (v := .slice _ _ _) rfl rfl), by rw [e0]; exact hp⟩
 ·(try simp only [decide_eq_true_eq, decide_eq_false_iff_not, Bool.not_eq_true', Bool.not_eq_false', Bool.not_eq_eq_eq_not, Bool.not_true, Bool.not_false, Int.not_lt, Int.not_le] at hb)
  refine GW_skip ?_
  refine GW_seq ?_
  refine GW_region ?_
  refine GL_lit (L := []) (wn_none rfl) rfl rfl Try.underlying62 ts9 tz9 rfl (by kernel_rfl) rfl rfl hp ?_
  intro g w hp
  refine GL_rd (v := .slice _ _ _) (wn_none rfl) rfl (rd_move rfl rfl) ?_
  refine GL_append (i := 0) (wn_none rfl) rfl rfl rfl rfl Try.underlying62 ti9 rfl (by decide) hp rfl (hI.keep hp.mod) (strs_one _) (by omega) (by omega) ?_
  intro v w hp
  refine GL_rd (v := v) (wn_none rfl) rfl (rd_assign rfl rfl) ?_
  refine GL_nil ?_
  refine GW_ret ?_
  have hp := ((hp.front 0 rfl).take 1)
  rw [Nat.zero_add, List.nil_append] at hp
  exact ⟨_, res1 Try.results85 (rv_tmp (v := v) rfl rfl), hp⟩
theorem sl_DeleteG {w : World} {n i : Nat} {v : Value} {l : List ByteArray} (hr : (Res.row 9 1 v n (l.map Value.string)).at_ w) (hi : i < l.length) : Does Try.prog 87 #[v, .int .i64 (i : Int), .int .i64 ((i : Int) + 1)] w fun v' w' => Hp w v.ownBlock.toList w' [.row 9 1 v' (cutS l i).length ((cutS l i).map Value.string)] := delete_does ⟨Try.f87, Try.func87, by kernel_rfl, by kernel_rfl⟩ Go.Proofs.Try.slices_Delete_string hr hi
theorem gu_New (w0 : World) : Does Try.prog 49 #[] w0 fun v w' => ∃ gq rm pm, v = .pointer (some ⟨gq, 0, none⟩) ∧ Hp w0 [] w' [cells gq 137 [.map (some rm), .map (some pm)], .blk rm (.map ⟨alE []⟩ 0), .blk pm (.map ⟨alE []⟩ 0)] := by
 refine does_of (l := []) Try.func49 (by kernel_rfl) rfl Try.ntmps49 rfl rfl (by kernel_rfl) ?_
 have hp := Hp.refl w0 []
 refine GW_seq ?_
 refine GW_region ?_
 refine GL_rd (v := _) (wn_none rfl) rfl (rd_assign rfl rfl) ?_
 refine GL_nil ?_
 refine GW_seq ?_
 refine GW_region ?_
 refine GL_makeMap (wn_none rfl) rfl rfl hp ?_
 intro g w hp
 refine GL_makeMap (wn_none rfl) rfl rfl hp ?_
 intro g2 w hp
 refine GL_rd (wn_none rfl) rfl (rd_buildS (L := [.map (some g), .map (some g2)]) rfl tz137 pl137 (by kernel_rfl)) ?_
 refine GL_box (wn_none rfl) rfl rfl rfl rfl hp ?_
 intro g3 w hp
 refine GL_rd (v := .pointer (some ⟨_, _, none⟩)) (wn_none rfl) rfl (rd_assign rfl rfl) ?_
 refine GL_nil ?_
 refine GW_ret ?_
 have hp := ((((hp.front 1 rfl).front 2 rfl).front 2 rfl).take 3)
 exact ⟨_, res1 Try.results49 (rv_tmp (v := .pointer (some ⟨_, _, none⟩)) rfl rfl), _, _, _, rfl, hp⟩
set_option maxHeartbeats 1000000 in
theorem gu_Define (gq rm pm cr cp : Nat) (RA PA : AL) (mk : MK) (ct : CT) (nm : ByteArray) (b : BitVec 32) (hz : nm.size ≤ 65000) (F0 : List Nat) (w0 : World) (hp0 : Hp w0 F0 w0 [cells gq 137 [.map (some rm), .map (some pm)], .blk rm (.map ⟨alE RA⟩ cr), .blk pm (.map ⟨alE PA⟩ cp), packL (rowsG 9 PA ct)]) (hO : GuOk RA cr mk PA cp ct) : Does Try.prog 50 #[.pointer (some ⟨gq, 0, none⟩), .agg ⟨rolC nm b⟩] w0 fun v w' => v = .int .i64 (defC RA nm) ∧ Hp w0 F0 w' [cells gq 137 [.map (some rm), .map (some pm)], .blk rm (.map ⟨alE (if defC RA nm = 0 then alPut RA nm (.agg ⟨rolC nm (b &&& ofBt (allK 18))⟩) cr else RA)⟩ (if defC RA nm = 0 then alClk RA nm cr else cr)), .blk pm (.map ⟨alE PA⟩ cp), packL (rowsG 9 PA ct)] := by
 refine does_of (l := [.pointer (some ⟨gq, 0, none⟩), .agg ⟨rolC nm b⟩]) Try.func50 (by kernel_rfl) rfl Try.ntmps50 rfl rfl (by kernel_rfl) ?_
 have hp := hp0
 refine GW_seq ?_
 refine GW_region ?_
 refine GL_box (wn_none rfl) rfl rfl rfl rfl hp ?_
 intro g w hp
 refine GL_rd (v := .int _ _) (wn_none rfl) rfl (rd_assign rfl rfl) ?_
 refine GL_nil ?_
 refine GW_seq ?_
 refine GW_seq ?_
 refine GW_region ?_
 refine GL_rd (wn_none rfl) rfl (rd_field rfl rfl fa59_0 _ rfl) ?_
 refine GL_rd (wn_none rfl) rfl (rd_load rfl rfl Try.underlying9 rfl ((cell_of_cells (hp.get 0 rfl) _).trans rfl)) ?_
 refine GL_call (wn_none rfl) rfl rfl (cl_Name nm _ (by omega)) rfl ?_
 rintro _ w ⟨rfl, hk⟩
 have hp := hp.comp hk
 refine GL_rd (v := .int _ _) (wn_none rfl) rfl (rd_assign rfl rfl) ?_
 refine GL_nil ?_
 refine GW_seq ?_
 refine GW_region ?_
 refine GL_rd (v := .int _ _) (wn_none rfl) rfl (rd_move rfl rfl) ?_
 refine GL_rd (wn_none rfl) rfl (rd_bin rfl rfl rfl bo_neq) ?_
 refine GL_nil ?_
 refine GW_cond rfl (fun hb => ?_) (fun hb => ?_)
 ·(try simp only [decide_eq_true_eq, decide_eq_false_iff_not, Bool.not_eq_true', Bool.not_eq_false', Bool.not_eq_eq_eq_not, Bool.not_true, Bool.not_false, Int.not_lt, Int.not_le] at hb)
  have hc : ¬ nameC nm = 0 := hb
  have ed : defC RA nm = nameC nm := if_neg hc
  refine GW_seq ?_
  refine GW_region ?_
  refine GL_rd (v := .int _ _) (wn_none rfl) rfl (rd_move rfl rfl) ?_
  refine GL_rd (v := .int _ _) (wn_none rfl) rfl (rd_assign rfl rfl) ?_
  refine GL_nil ?_
  refine GW_ret ?_
  have hp := (((((hp.front 4 rfl).front 4 rfl).front 4 rfl).front 4 rfl).take 4)
  refine ⟨_, res1 Try.results50 (rv_tmp (v := .int _ _) rfl rfl), by rw [ed], ?_⟩
  rw [if_neg (by omega), if_neg (by omega)]
  exact hp
 ·(try simp only [decide_eq_true_eq, decide_eq_false_iff_not, Bool.not_eq_true', Bool.not_eq_false', Bool.not_eq_eq_eq_not, Bool.not_true, Bool.not_false, Int.not_lt, Int.not_le] at hb)
  have hc : nameC nm = 0 := hb
  refine GW_skip ?_
  refine GW_seq ?_
  refine GW_seq ?_
  cases hfi : alG RA nm with
  | none =>
   refine GW_drawnK 11 (.one 0 true (.one 1 true (.one 2 true (.one 3 true (.one 4 true (.one 5 true (.one 6 true (.one 7 true (.one 8 true (.one 9 true (.one 10 false (.one 11 false (.one 12 false .nil))))))))))))) mixed (by kernel_rfl) hp (fun _ h => (h.sub (.cons_cons _ (.cons_cons _ (.cons_cons _ (.cons _ (.cons _ .slnil))))))) fun w hp => ?_
   have hpS := (hp.sub (.cons_cons _ (.cons_cons _ (.cons_cons _ (.cons _ (.cons _ .slnil))))))
   refine GO_rdT (v := .pointer (some ⟨_, _, none⟩)) rfl (wn_none rfl) rfl (fun w => (rd_move rfl rfl)) ?_
   refine GO_rdT rfl (wn_none rfl) rfl (fun w => (rd_nilCheck rfl rfl)) ?_
   refine GO_rdT rfl (wn_none rfl) rfl (fun w => (rd_field rfl rfl fa137_0 _ rfl)) ?_
   refine GO_rd rfl rfl (wn_none rfl) rfl hpS (fun w hp => (rd_load rfl rfl Try.underlying134 rfl ((cell_of_cells (hp.get 1 rfl) _).trans rfl))) ?_
   refine GO_rdT rfl (wn_none rfl) rfl (fun w => (rd_field rfl rfl fa59_0 _ rfl)) ?_
   refine GO_rd rfl rfl (wn_none rfl) rfl hpS (fun w hp => (rd_load rfl rfl Try.underlying9 rfl ((cell_of_cells (hp.get 0 rfl) _).trans rfl))) ?_
   refine GO_rd (v := .tuple #[.agg ⟨[.string ⟨#[]⟩, .int .u32 0]⟩, .bool false]) rfl rfl (wn_none rfl) rfl hpS (fun w hp => (rd_eq (rd_lookA rfl rfl rfl Try.underlying134 Try.underlying9 tz59 (hp.get 2 rfl)) (by rw [hfi]; rfl))) ?_
   refine GO_rdT (v := .tuple _) rfl (wn_none rfl) rfl (fun w => (rd_move rfl rfl)) ?_
   refine GO_rdT (v := .agg ⟨_⟩) rfl (wn_none rfl) rfl (fun w => (rd_extract rfl rfl rfl)) ?_
   refine GO_rdT (v := .bool _) rfl (wn_none rfl) rfl (fun w => (rd_extract rfl rfl rfl)) ?_
   refine GO_of_GL rfl ?_
   refine GL_alloc (wn_none rfl) rfl rfl tz59 rfl hp ?_
   intro g2 w hp
   have hpS2 := (hp.sub (.cons _ (.cons_cons _ (.cons_cons _ (.cons_cons _ (.cons _ (.cons _ .slnil)))))))
   refine GL_nil ⟨fun _ => hpS2, ?_⟩
   refine GO_of_GL rfl ?_
   refine GL_store (i := 0) (wn_none rfl) rfl rfl rfl rfl ts59 rfl rfl (oneC rfl (oneC rfl one0)) hp rfl (by first | exact Nat.le_of_ble_eq_true rfl | simp [bys_length, *]) rfl ?_
   intro w hp
   refine GL_nil ⟨fun h => absurd h (by decide), ?_⟩
   refine GO_of_GL rfl ?_
   refine GL_rd (v := .bool _) (wn_none rfl) rfl (rd_assign rfl rfl) (GL_nil ⟨fun h => absurd h (by decide), ?_⟩)
   refine GO_nil ?_
   refine GW_seq ?_
   refine GW_region ?_
   refine GL_rd (v := .bool _) (wn_none rfl) rfl (rd_move rfl rfl) ?_
   refine GL_rd (wn_none rfl) rfl (rd_not rfl rfl) ?_
   refine GL_rd (v := .bool _) (wn_none rfl) rfl (rd_move rfl rfl) ?_
   refine GL_rd (v := .pointer (some ⟨_, _, none⟩)) (wn_on rfl rfl rfl rfl) rfl (rd_move rfl rfl) ?_
   refine GL_rd (wn_on rfl rfl rfl rfl) rfl (rd_nilCheck rfl rfl) ?_
   refine GL_rd (wn_on rfl rfl rfl rfl) rfl (rd_field rfl rfl fa137_0 _ rfl) ?_
   refine GL_rd (wn_on rfl rfl rfl rfl) rfl (rd_load rfl rfl Try.underlying134 rfl ((cell_of_cells (hp.get 2 rfl) _).trans rfl)) ?_
   refine GL_rd (wn_on rfl rfl rfl rfl) rfl (rd_lenM rfl rfl rfl Try.underlying134 (hp.get 3 rfl)) ?_
   refine GL_rd (wn_on rfl rfl rfl rfl) rfl (rd_bin rfl rfl rfl bo_geq) ?_
   refine GL_rd (v := .bool _) (wn_none rfl) rfl (rd_pickT rfl rfl rfl) ?_
   refine GL_nil ?_
   refine GW_cond rfl (fun hb2 => ?_) (fun hb2 => ?_)
   ·(try simp only [decide_eq_true_eq, decide_eq_false_iff_not, Bool.not_eq_true', Bool.not_eq_false', Bool.not_eq_eq_eq_not, Bool.not_true, Bool.not_false, Int.not_lt, Int.not_le] at hb2)
    have ed : defC RA nm = 7 := by rw [defC, if_pos hc, if_pos ⟨hfi, by omega⟩]
    refine GW_seq ?_
    refine GW_region ?_
    refine GL_rd (v := .int _ _) (wn_none rfl) rfl (rd_assign rfl rfl) ?_
    refine GL_nil ?_
    refine GW_ret ?_
    have hp := (((((hp.front 5 rfl).front 5 rfl).front 5 rfl).front 5 rfl).take 4)
    refine ⟨_, res1 Try.results50 (rv_tmp (v := .int _ _) rfl rfl), by rw [ed], ?_⟩
    rw [if_neg (by omega), if_neg (by omega)]
    exact hp
   ·(try simp only [decide_eq_true_eq, decide_eq_false_iff_not, Bool.not_eq_true', Bool.not_eq_false', Bool.not_eq_eq_eq_not, Bool.not_true, Bool.not_false, Int.not_lt, Int.not_le] at hb2)
    have ed : defC RA nm = 0 := by rw [defC, if_pos hc, if_neg (fun q => by have := hb2; omega)]
    refine GW_skip ?_
    refine GW_seq ?_
    refine GW_drawnK 6 (.one 0 true (.two 1 2 (.one 2 false (.one 3 false (.one 4 true (.one 5 true (.one 6 false .nil))))) (.two 1 3 (.one 3 false (.one 4 true (.one 5 true (.one 6 false .nil)))) (.one 1 false (.one 4 true (.one 5 true (.one 6 false .nil))))))) mixed (by kernel_rfl) hp (fun _ h => h.mods) fun w hp => ?_
    have hpS3 := hp.mods
    refine GO_rdT rfl (wn_none rfl) rfl (fun w => (rd_field rfl rfl fa59_1 _ rfl)) ?_
    refine GO_two rfl rfl ?_ ?_
    ·skip
     refine GC_of_GL ?_
     refine GL_rd (wn_none rfl) rfl (rd_load rfl rfl Try.underlying38 rfl ((cell_of_cells (hp.get 1 rfl) _).trans rfl)) (GL_nil ⟨fun _ => hpS3, ?_⟩)
     refine GO_of_GL rfl ?_
     refine GL_call (wn_none rfl) rfl rfl (gu_all _) rfl ?_
     intro va w hk
     have hp := hp.comp hk
     have hpS4 := hp.mods
     refine GL_nil ⟨fun _ => hpS4, ?_⟩
     refine GO_of_GL rfl ?_
     refine GL_call (wn_none rfl) rfl rfl (gu_Of _ _ (allK 18) _ (Sl.row (hp.get 0 rfl))) rfl ?_
     rintro _ w ⟨rfl, hk⟩
     have hp := hp.comp hk
     have hpS5 := hp.mods
     refine GL_nil ⟨fun _ => hpS5, ?_⟩
     refine GO_rd rfl rfl (wn_none rfl) rfl hpS5 (fun w hp => (rd_bin rfl rfl rfl (bo_andV _ _))) ?_
     refine GO_rdT rfl (wn_none rfl) rfl (fun w => (rd_field rfl rfl fa59_1 _ rfl)) ?_
     refine GO_of_GL rfl ?_
     refine GL_store (i := 2) (wn_none rfl) rfl rfl rfl rfl ts38 rfl rfl (one1 rfl) hp rfl (by first | exact Nat.le_of_ble_eq_true rfl | simp [bys_length, *]) (show splice _ _ _ = rolC nm (b &&& ofBt (allK 18)) from rfl) ?_
     intro w hp
     refine GL_nil ⟨fun h => absurd h (by decide), ?_⟩
     refine GO_nil ?_
     refine GW_seq ?_
     refine GW_drawnK 8 (.one 0 true (.one 1 true (.one 2 true (.one 3 true (.one 4 true (.one 5 true (.one 6 true (.one 7 false .nil)))))))) mixed (by kernel_rfl) hp (fun _ h => (h.sub (.cons _ (.cons _ (.cons_cons _ (.cons_cons _ (.cons _ (.cons _ (.cons _ .slnil))))))))) fun w hp => ?_
     have hpS6 := (hp.sub (.cons _ (.cons _ (.cons_cons _ (.cons_cons _ (.cons _ (.cons _ (.cons _ .slnil))))))))
     refine GO_rdT (v := .pointer (some ⟨_, _, none⟩)) rfl (wn_none rfl) rfl (fun w => (rd_move rfl rfl)) ?_
     refine GO_rdT rfl (wn_none rfl) rfl (fun w => (rd_nilCheck rfl rfl)) ?_
     refine GO_rdT rfl (wn_none rfl) rfl (fun w => (rd_field rfl rfl fa137_0 _ rfl)) ?_
     refine GO_rd rfl rfl (wn_none rfl) rfl hpS6 (fun w hp => (rd_load rfl rfl Try.underlying134 rfl ((cell_of_cells (hp.get 1 rfl) _).trans rfl))) ?_
     refine GO_rdT rfl (wn_none rfl) rfl (fun w => (rd_field rfl rfl fa59_0 _ rfl)) ?_
     refine GO_rd rfl rfl (wn_none rfl) rfl hpS6 (fun w hp => (rd_load rfl rfl Try.underlying9 rfl ((cell_of_cells (hp.get 0 rfl) _).trans rfl))) ?_
     refine GO_rd rfl rfl (wn_none rfl) rfl hpS6 (fun w hp => (rd_loadC rfl rfl Try.underlying59 rfl ts59 (hp.get 0 rfl) (by first | (rw [bys_length]; first | exact a32_len _) | rfl | simp [bys_length, *]))) ?_
     refine GO_of_GL rfl ?_
     refine GL_putA (i := 4) (wn_none rfl) rfl rfl rfl rfl rfl Try.underlying134 Try.underlying9 hp rfl ?_
     intro w hp
     have hpS7 := (hp.sub (.cons _ (.cons _ (.cons_cons _ (.cons_cons _ (.cons _ (.cons _ (.cons _ .slnil))))))))
     refine GL_nil ⟨fun _ => hpS7, ?_⟩
     refine GO_nil ?_
     refine GW_seq ?_
     refine GW_region ?_
     refine GL_rd (v := .int _ _) (wn_none rfl) rfl (rd_assign rfl rfl) ?_
     refine GL_nil ?_
     refine GW_ret ?_
     have hp := (((((hp.front 6 rfl).front 6 rfl).front 6 rfl).front 6 rfl).take 4)
     refine ⟨_, res1 Try.results50 (rv_tmp (v := .int _ _) rfl rfl), by rw [ed], ?_⟩
     rw [ed]
     exact hp
    ·skip
     refine GC_of_GL ?_
     refine GL_call (wn_none rfl) rfl rfl (gu_all _) rfl ?_
     intro va w hk
     have hp := hp.comp hk
     have hpS8 := hp.mods
     refine GL_nil ⟨fun _ => hpS8, ?_⟩
     refine GO_two rfl rfl ?_ ?_
     ·skip
      refine GC_of_GL ?_
      refine GL_rd (wn_none rfl) rfl (rd_load rfl rfl Try.underlying38 rfl ((cell_of_cells (hp.get 2 rfl) _).trans rfl)) (GL_nil ⟨fun _ => hpS8, ?_⟩)
      refine GO_of_GL rfl ?_
      refine GL_call (wn_none rfl) rfl rfl (gu_Of _ _ (allK 18) _ (Sl.row (hp.get 0 rfl))) rfl ?_
      rintro _ w ⟨rfl, hk⟩
      have hp := hp.comp hk
      have hpS9 := hp.mods
      refine GL_nil ⟨fun _ => hpS9, ?_⟩
      refine GO_rd rfl rfl (wn_none rfl) rfl hpS9 (fun w hp => (rd_bin rfl rfl rfl (bo_andV _ _))) ?_
      refine GO_rdT rfl (wn_none rfl) rfl (fun w => (rd_field rfl rfl fa59_1 _ rfl)) ?_
      refine GO_of_GL rfl ?_
      refine GL_store (i := 2) (wn_none rfl) rfl rfl rfl rfl ts38 rfl rfl (one1 rfl) hp rfl (by first | exact Nat.le_of_ble_eq_true rfl | simp [bys_length, *]) (show splice _ _ _ = rolC nm (b &&& ofBt (allK 18)) from rfl) ?_
      intro w hp
      refine GL_nil ⟨fun h => absurd h (by decide), ?_⟩
      refine GO_nil ?_
      refine GW_seq ?_
      refine GW_drawnK 8 (.one 0 true (.one 1 true (.one 2 true (.one 3 true (.one 4 true (.one 5 true (.one 6 true (.one 7 false .nil)))))))) mixed (by kernel_rfl) hp (fun _ h => (h.sub (.cons _ (.cons _ (.cons_cons _ (.cons_cons _ (.cons _ (.cons _ (.cons _ .slnil))))))))) fun w hp => ?_
      have hpS10 := (hp.sub (.cons _ (.cons _ (.cons_cons _ (.cons_cons _ (.cons _ (.cons _ (.cons _ .slnil))))))))
      refine GO_rdT (v := .pointer (some ⟨_, _, none⟩)) rfl (wn_none rfl) rfl (fun w => (rd_move rfl rfl)) ?_
      refine GO_rdT rfl (wn_none rfl) rfl (fun w => (rd_nilCheck rfl rfl)) ?_
      refine GO_rdT rfl (wn_none rfl) rfl (fun w => (rd_field rfl rfl fa137_0 _ rfl)) ?_
      refine GO_rd rfl rfl (wn_none rfl) rfl hpS10 (fun w hp => (rd_load rfl rfl Try.underlying134 rfl ((cell_of_cells (hp.get 1 rfl) _).trans rfl))) ?_
      refine GO_rdT rfl (wn_none rfl) rfl (fun w => (rd_field rfl rfl fa59_0 _ rfl)) ?_
      refine GO_rd rfl rfl (wn_none rfl) rfl hpS10 (fun w hp => (rd_load rfl rfl Try.underlying9 rfl ((cell_of_cells (hp.get 0 rfl) _).trans rfl))) ?_
      refine GO_rd rfl rfl (wn_none rfl) rfl hpS10 (fun w hp => (rd_loadC rfl rfl Try.underlying59 rfl ts59 (hp.get 0 rfl) (by first | (rw [bys_length]; first | exact a32_len _) | rfl | simp [bys_length, *]))) ?_
      refine GO_of_GL rfl ?_
      refine GL_putA (i := 4) (wn_none rfl) rfl rfl rfl rfl rfl Try.underlying134 Try.underlying9 hp rfl ?_
      intro w hp
      have hpS11 := (hp.sub (.cons _ (.cons _ (.cons_cons _ (.cons_cons _ (.cons _ (.cons _ (.cons _ .slnil))))))))
      refine GL_nil ⟨fun _ => hpS11, ?_⟩
      refine GO_nil ?_
      refine GW_seq ?_
      refine GW_region ?_
      refine GL_rd (v := .int _ _) (wn_none rfl) rfl (rd_assign rfl rfl) ?_
      refine GL_nil ?_
      refine GW_ret ?_
      have hp := (((((hp.front 6 rfl).front 6 rfl).front 6 rfl).front 6 rfl).take 4)
      refine ⟨_, res1 Try.results50 (rv_tmp (v := .int _ _) rfl rfl), by rw [ed], ?_⟩
      rw [ed]
      exact hp
     ·skip
      refine GC_of_GL ?_
      refine GL_call (wn_none rfl) rfl rfl (gu_Of _ _ (allK 18) _ (Sl.row (hp.get 0 rfl))) rfl ?_
      rintro _ w ⟨rfl, hk⟩
      have hp := hp.comp hk
      have hpS12 := hp.mods
      refine GL_nil ⟨fun _ => hpS12, ?_⟩
      refine GO_of_GL rfl ?_
      refine GL_rd (wn_none rfl) rfl (rd_load rfl rfl Try.underlying38 rfl ((cell_of_cells (hp.get 2 rfl) _).trans rfl)) (GL_nil ⟨fun _ => hpS12, ?_⟩)
      refine GO_rd rfl rfl (wn_none rfl) rfl hpS12 (fun w hp => (rd_bin rfl rfl rfl (bo_andV _ _))) ?_
      refine GO_rdT rfl (wn_none rfl) rfl (fun w => (rd_field rfl rfl fa59_1 _ rfl)) ?_
      refine GO_of_GL rfl ?_
      refine GL_store (i := 2) (wn_none rfl) rfl rfl rfl rfl ts38 rfl rfl (one1 rfl) hp rfl (by first | exact Nat.le_of_ble_eq_true rfl | simp [bys_length, *]) (show splice _ _ _ = rolC nm (b &&& ofBt (allK 18)) from rfl) ?_
      intro w hp
      refine GL_nil ⟨fun h => absurd h (by decide), ?_⟩
      refine GO_nil ?_
      refine GW_seq ?_
      refine GW_drawnK 8 (.one 0 true (.one 1 true (.one 2 true (.one 3 true (.one 4 true (.one 5 true (.one 6 true (.one 7 false .nil)))))))) mixed (by kernel_rfl) hp (fun _ h => (h.sub (.cons _ (.cons _ (.cons_cons _ (.cons_cons _ (.cons _ (.cons _ (.cons _ .slnil))))))))) fun w hp => ?_
      have hpS13 := (hp.sub (.cons _ (.cons _ (.cons_cons _ (.cons_cons _ (.cons _ (.cons _ (.cons _ .slnil))))))))
      refine GO_rdT (v := .pointer (some ⟨_, _, none⟩)) rfl (wn_none rfl) rfl (fun w => (rd_move rfl rfl)) ?_
      refine GO_rdT rfl (wn_none rfl) rfl (fun w => (rd_nilCheck rfl rfl)) ?_
      refine GO_rdT rfl (wn_none rfl) rfl (fun w => (rd_field rfl rfl fa137_0 _ rfl)) ?_
      refine GO_rd rfl rfl (wn_none rfl) rfl hpS13 (fun w hp => (rd_load rfl rfl Try.underlying134 rfl ((cell_of_cells (hp.get 1 rfl) _).trans rfl))) ?_
      refine GO_rdT rfl (wn_none rfl) rfl (fun w => (rd_field rfl rfl fa59_0 _ rfl)) ?_
      refine GO_rd rfl rfl (wn_none rfl) rfl hpS13 (fun w hp => (rd_load rfl rfl Try.underlying9 rfl ((cell_of_cells (hp.get 0 rfl) _).trans rfl))) ?_
      refine GO_rd rfl rfl (wn_none rfl) rfl hpS13 (fun w hp => (rd_loadC rfl rfl Try.underlying59 rfl ts59 (hp.get 0 rfl) (by first | (rw [bys_length]; first | exact a32_len _) | rfl | simp [bys_length, *]))) ?_
      refine GO_of_GL rfl ?_
      refine GL_putA (i := 4) (wn_none rfl) rfl rfl rfl rfl rfl Try.underlying134 Try.underlying9 hp rfl ?_
      intro w hp
      have hpS14 := (hp.sub (.cons _ (.cons _ (.cons_cons _ (.cons_cons _ (.cons _ (.cons _ (.cons _ .slnil))))))))
      refine GL_nil ⟨fun _ => hpS14, ?_⟩
      refine GO_nil ?_
      refine GW_seq ?_
      refine GW_region ?_
      refine GL_rd (v := .int _ _) (wn_none rfl) rfl (rd_assign rfl rfl) ?_
      refine GL_nil ?_
      refine GW_ret ?_
      have hp := (((((hp.front 6 rfl).front 6 rfl).front 6 rfl).front 6 rfl).take 4)
      refine ⟨_, res1 Try.results50 (rv_tmp (v := .int _ _) rfl rfl), by rw [ed], ?_⟩
      rw [ed]
      exact hp
  | some rv0 =>
   have hv := hO.rin nm rv0 hfi
   subst hv
   refine GW_drawnK 11 (.one 0 true (.one 1 true (.one 2 true (.one 3 true (.one 4 true (.one 5 true (.one 6 true (.one 7 true (.one 8 true (.one 9 true (.one 10 false (.one 11 false (.one 12 false .nil))))))))))))) mixed (by kernel_rfl) hp (fun _ h => (h.sub (.cons_cons _ (.cons_cons _ (.cons_cons _ (.cons _ (.cons _ .slnil))))))) fun w hp => ?_
   have hpS15 := (hp.sub (.cons_cons _ (.cons_cons _ (.cons_cons _ (.cons _ (.cons _ .slnil))))))
   refine GO_rdT (v := .pointer (some ⟨_, _, none⟩)) rfl (wn_none rfl) rfl (fun w => (rd_move rfl rfl)) ?_
   refine GO_rdT rfl (wn_none rfl) rfl (fun w => (rd_nilCheck rfl rfl)) ?_
   refine GO_rdT rfl (wn_none rfl) rfl (fun w => (rd_field rfl rfl fa137_0 _ rfl)) ?_
   refine GO_rd rfl rfl (wn_none rfl) rfl hpS15 (fun w hp => (rd_load rfl rfl Try.underlying134 rfl ((cell_of_cells (hp.get 1 rfl) _).trans rfl))) ?_
   refine GO_rdT rfl (wn_none rfl) rfl (fun w => (rd_field rfl rfl fa59_0 _ rfl)) ?_
   refine GO_rd rfl rfl (wn_none rfl) rfl hpS15 (fun w hp => (rd_load rfl rfl Try.underlying9 rfl ((cell_of_cells (hp.get 0 rfl) _).trans rfl))) ?_
   refine GO_rd (v := .tuple #[.agg ⟨rolC nm (mk nm)⟩, .bool true]) rfl rfl (wn_none rfl) rfl hpS15 (fun w hp => (rd_eq (rd_lookA rfl rfl rfl Try.underlying134 Try.underlying9 tz59 (hp.get 2 rfl)) (by rw [hfi]; rfl))) ?_
   refine GO_rdT (v := .tuple _) rfl (wn_none rfl) rfl (fun w => (rd_move rfl rfl)) ?_
   refine GO_rdT (v := .agg ⟨_⟩) rfl (wn_none rfl) rfl (fun w => (rd_extract rfl rfl rfl)) ?_
   refine GO_rdT (v := .bool _) rfl (wn_none rfl) rfl (fun w => (rd_extract rfl rfl rfl)) ?_
   refine GO_of_GL rfl ?_
   refine GL_alloc (wn_none rfl) rfl rfl tz59 rfl hp ?_
   intro g3 w hp
   have hpS16 := (hp.sub (.cons _ (.cons_cons _ (.cons_cons _ (.cons_cons _ (.cons _ (.cons _ .slnil)))))))
   refine GL_nil ⟨fun _ => hpS16, ?_⟩
   refine GO_of_GL rfl ?_
   refine GL_store (i := 0) (wn_none rfl) rfl rfl rfl rfl ts59 rfl rfl (oneC rfl (oneC rfl one0)) hp rfl (by first | exact Nat.le_of_ble_eq_true rfl | simp [bys_length, *]) rfl ?_
   intro w hp
   refine GL_nil ⟨fun h => absurd h (by decide), ?_⟩
   refine GO_of_GL rfl ?_
   refine GL_rd (v := .bool _) (wn_none rfl) rfl (rd_assign rfl rfl) (GL_nil ⟨fun h => absurd h (by decide), ?_⟩)
   refine GO_nil ?_
   refine GW_seq ?_
   refine GW_region ?_
   refine GL_rd (v := .bool _) (wn_none rfl) rfl (rd_move rfl rfl) ?_
   refine GL_rd (wn_none rfl) rfl (rd_not rfl rfl) ?_
   refine GL_rd (v := .bool _) (wn_none rfl) rfl (rd_move rfl rfl) ?_
   refine GL_pass (nw_off rfl rfl rfl rfl rfl) rfl ?_
   refine GL_pass (nw_off rfl rfl rfl rfl rfl) rfl ?_
   refine GL_pass (nw_off rfl rfl rfl rfl rfl) rfl ?_
   refine GL_pass (nw_off rfl rfl rfl rfl rfl) rfl ?_
   refine GL_pass (nw_off rfl rfl rfl rfl rfl) rfl ?_
   refine GL_pass (nw_off rfl rfl rfl rfl rfl) rfl ?_
   refine GL_rd (v := .bool _) (wn_none rfl) rfl (rd_pickF rfl rfl rfl) ?_
   refine GL_nil ?_
   refine GW_false rfl ?_
   refine GW_skip ?_
   refine GW_seq ?_
   refine GW_drawnK 6 (.one 0 true (.two 1 2 (.one 2 false (.one 3 false (.one 4 true (.one 5 true (.one 6 false .nil))))) (.two 1 3 (.one 3 false (.one 4 true (.one 5 true (.one 6 false .nil)))) (.one 1 false (.one 4 true (.one 5 true (.one 6 false .nil))))))) mixed (by kernel_rfl) hp (fun _ h => h.mods) fun w hp => ?_
   have hpS17 := hp.mods
   refine GO_rdT rfl (wn_none rfl) rfl (fun w => (rd_field rfl rfl fa59_1 _ rfl)) ?_
   refine GO_two rfl rfl ?_ ?_
   ·skip
    refine GC_of_GL ?_
    refine GL_rd (wn_none rfl) rfl (rd_load rfl rfl Try.underlying38 rfl ((cell_of_cells (hp.get 1 rfl) _).trans rfl)) (GL_nil ⟨fun _ => hpS17, ?_⟩)
    refine GO_of_GL rfl ?_
    refine GL_call (wn_none rfl) rfl rfl (gu_all _) rfl ?_
    intro va w hk
    have hp := hp.comp hk
    have hpS18 := hp.mods
    refine GL_nil ⟨fun _ => hpS18, ?_⟩
    refine GO_of_GL rfl ?_
    refine GL_call (wn_none rfl) rfl rfl (gu_Of _ _ (allK 18) _ (Sl.row (hp.get 0 rfl))) rfl ?_
    rintro _ w ⟨rfl, hk⟩
    have hp := hp.comp hk
    have hpS19 := hp.mods
    refine GL_nil ⟨fun _ => hpS19, ?_⟩
    refine GO_rd rfl rfl (wn_none rfl) rfl hpS19 (fun w hp => (rd_bin rfl rfl rfl (bo_andV _ _))) ?_
    refine GO_rdT rfl (wn_none rfl) rfl (fun w => (rd_field rfl rfl fa59_1 _ rfl)) ?_
    refine GO_of_GL rfl ?_
    refine GL_store (i := 2) (wn_none rfl) rfl rfl rfl rfl ts38 rfl rfl (one1 rfl) hp rfl (by first | exact Nat.le_of_ble_eq_true rfl | simp [bys_length, *]) (show splice _ _ _ = rolC nm (b &&& ofBt (allK 18)) from rfl) ?_
    intro w hp
    refine GL_nil ⟨fun h => absurd h (by decide), ?_⟩
    refine GO_nil ?_
    refine GW_seq ?_
    refine GW_drawnK 8 (.one 0 true (.one 1 true (.one 2 true (.one 3 true (.one 4 true (.one 5 true (.one 6 true (.one 7 false .nil)))))))) mixed (by kernel_rfl) hp (fun _ h => (h.sub (.cons _ (.cons _ (.cons_cons _ (.cons_cons _ (.cons _ (.cons _ (.cons _ .slnil))))))))) fun w hp => ?_
    have hpS20 := (hp.sub (.cons _ (.cons _ (.cons_cons _ (.cons_cons _ (.cons _ (.cons _ (.cons _ .slnil))))))))
    refine GO_rdT (v := .pointer (some ⟨_, _, none⟩)) rfl (wn_none rfl) rfl (fun w => (rd_move rfl rfl)) ?_
    refine GO_rdT rfl (wn_none rfl) rfl (fun w => (rd_nilCheck rfl rfl)) ?_
    refine GO_rdT rfl (wn_none rfl) rfl (fun w => (rd_field rfl rfl fa137_0 _ rfl)) ?_
    refine GO_rd rfl rfl (wn_none rfl) rfl hpS20 (fun w hp => (rd_load rfl rfl Try.underlying134 rfl ((cell_of_cells (hp.get 1 rfl) _).trans rfl))) ?_
    refine GO_rdT rfl (wn_none rfl) rfl (fun w => (rd_field rfl rfl fa59_0 _ rfl)) ?_
    refine GO_rd rfl rfl (wn_none rfl) rfl hpS20 (fun w hp => (rd_load rfl rfl Try.underlying9 rfl ((cell_of_cells (hp.get 0 rfl) _).trans rfl))) ?_
    refine GO_rd rfl rfl (wn_none rfl) rfl hpS20 (fun w hp => (rd_loadC rfl rfl Try.underlying59 rfl ts59 (hp.get 0 rfl) (by first | (rw [bys_length]; first | exact a32_len _) | rfl | simp [bys_length, *]))) ?_
    refine GO_of_GL rfl ?_
    refine GL_putA (i := 4) (wn_none rfl) rfl rfl rfl rfl rfl Try.underlying134 Try.underlying9 hp rfl ?_
    intro w hp
    have hpS21 := (hp.sub (.cons _ (.cons _ (.cons_cons _ (.cons_cons _ (.cons _ (.cons _ (.cons _ .slnil))))))))
    refine GL_nil ⟨fun _ => hpS21, ?_⟩
    refine GO_nil ?_
    refine GW_seq ?_
    refine GW_region ?_
    refine GL_rd (v := .int _ _) (wn_none rfl) rfl (rd_assign rfl rfl) ?_
    refine GL_nil ?_
    refine GW_ret ?_
    have ed : defC RA nm = 0 := by rw [defC, if_pos hc, if_neg (fun q => by rw [hfi] at q; cases q.1)]
    have hp := (((((hp.front 6 rfl).front 6 rfl).front 6 rfl).front 6 rfl).take 4)
    refine ⟨_, res1 Try.results50 (rv_tmp (v := .int _ _) rfl rfl), by rw [ed], ?_⟩
    rw [ed]
    exact hp
   ·skip
    refine GC_of_GL ?_
    refine GL_call (wn_none rfl) rfl rfl (gu_all _) rfl ?_
    intro va w hk
    have hp := hp.comp hk
    have hpS22 := hp.mods
    refine GL_nil ⟨fun _ => hpS22, ?_⟩
    refine GO_two rfl rfl ?_ ?_
    ·skip
     refine GC_of_GL ?_
     refine GL_rd (wn_none rfl) rfl (rd_load rfl rfl Try.underlying38 rfl ((cell_of_cells (hp.get 2 rfl) _).trans rfl)) (GL_nil ⟨fun _ => hpS22, ?_⟩)
     refine GO_of_GL rfl ?_
     refine GL_call (wn_none rfl) rfl rfl (gu_Of _ _ (allK 18) _ (Sl.row (hp.get 0 rfl))) rfl ?_
     rintro _ w ⟨rfl, hk⟩
     have hp := hp.comp hk
     have hpS23 := hp.mods
     refine GL_nil ⟨fun _ => hpS23, ?_⟩
     refine GO_rd rfl rfl (wn_none rfl) rfl hpS23 (fun w hp => (rd_bin rfl rfl rfl (bo_andV _ _))) ?_
     refine GO_rdT rfl (wn_none rfl) rfl (fun w => (rd_field rfl rfl fa59_1 _ rfl)) ?_
     refine GO_of_GL rfl ?_
     refine GL_store (i := 2) (wn_none rfl) rfl rfl rfl rfl ts38 rfl rfl (one1 rfl) hp rfl (by first | exact Nat.le_of_ble_eq_true rfl | simp [bys_length, *]) (show splice _ _ _ = rolC nm (b &&& ofBt (allK 18)) from rfl) ?_
     intro w hp
     refine GL_nil ⟨fun h => absurd h (by decide), ?_⟩
     refine GO_nil ?_
     refine GW_seq ?_
     refine GW_drawnK 8 (.one 0 true (.one 1 true (.one 2 true (.one 3 true (.one 4 true (.one 5 true (.one 6 true (.one 7 false .nil)))))))) mixed (by kernel_rfl) hp (fun _ h => (h.sub (.cons _ (.cons _ (.cons_cons _ (.cons_cons _ (.cons _ (.cons _ (.cons _ .slnil))))))))) fun w hp => ?_
     have hpS24 := (hp.sub (.cons _ (.cons _ (.cons_cons _ (.cons_cons _ (.cons _ (.cons _ (.cons _ .slnil))))))))
     refine GO_rdT (v := .pointer (some ⟨_, _, none⟩)) rfl (wn_none rfl) rfl (fun w => (rd_move rfl rfl)) ?_
     refine GO_rdT rfl (wn_none rfl) rfl (fun w => (rd_nilCheck rfl rfl)) ?_
     refine GO_rdT rfl (wn_none rfl) rfl (fun w => (rd_field rfl rfl fa137_0 _ rfl)) ?_
     refine GO_rd rfl rfl (wn_none rfl) rfl hpS24 (fun w hp => (rd_load rfl rfl Try.underlying134 rfl ((cell_of_cells (hp.get 1 rfl) _).trans rfl))) ?_
     refine GO_rdT rfl (wn_none rfl) rfl (fun w => (rd_field rfl rfl fa59_0 _ rfl)) ?_
     refine GO_rd rfl rfl (wn_none rfl) rfl hpS24 (fun w hp => (rd_load rfl rfl Try.underlying9 rfl ((cell_of_cells (hp.get 0 rfl) _).trans rfl))) ?_
     refine GO_rd rfl rfl (wn_none rfl) rfl hpS24 (fun w hp => (rd_loadC rfl rfl Try.underlying59 rfl ts59 (hp.get 0 rfl) (by first | (rw [bys_length]; first | exact a32_len _) | rfl | simp [bys_length, *]))) ?_
     refine GO_of_GL rfl ?_
     refine GL_putA (i := 4) (wn_none rfl) rfl rfl rfl rfl rfl Try.underlying134 Try.underlying9 hp rfl ?_
     intro w hp
     have hpS25 := (hp.sub (.cons _ (.cons _ (.cons_cons _ (.cons_cons _ (.cons _ (.cons _ (.cons _ .slnil))))))))
     refine GL_nil ⟨fun _ => hpS25, ?_⟩
     refine GO_nil ?_
     refine GW_seq ?_
     refine GW_region ?_
     refine GL_rd (v := .int _ _) (wn_none rfl) rfl (rd_assign rfl rfl) ?_
     refine GL_nil ?_
     refine GW_ret ?_
     have ed : defC RA nm = 0 := by rw [defC, if_pos hc, if_neg (fun q => by rw [hfi] at q; cases q.1)]
     have hp := (((((hp.front 6 rfl).front 6 rfl).front 6 rfl).front 6 rfl).take 4)
     refine ⟨_, res1 Try.results50 (rv_tmp (v := .int _ _) rfl rfl), by rw [ed], ?_⟩
     rw [ed]
     exact hp
    ·skip
     refine GC_of_GL ?_
     refine GL_call (wn_none rfl) rfl rfl (gu_Of _ _ (allK 18) _ (Sl.row (hp.get 0 rfl))) rfl ?_
     rintro _ w ⟨rfl, hk⟩
     have hp := hp.comp hk
     have hpS26 := hp.mods
     refine GL_nil ⟨fun _ => hpS26, ?_⟩
     refine GO_of_GL rfl ?_
     refine GL_rd (wn_none rfl) rfl (rd_load rfl rfl Try.underlying38 rfl ((cell_of_cells (hp.get 2 rfl) _).trans rfl)) (GL_nil ⟨fun _ => hpS26, ?_⟩)
     refine GO_rd rfl rfl (wn_none rfl) rfl hpS26 (fun w hp => (rd_bin rfl rfl rfl (bo_andV _ _))) ?_
     refine GO_rdT rfl (wn_none rfl) rfl (fun w => (rd_field rfl rfl fa59_1 _ rfl)) ?_
     refine GO_of_GL rfl ?_
     refine GL_store (i := 2) (wn_none rfl) rfl rfl rfl rfl ts38 rfl rfl (one1 rfl) hp rfl (by first | exact Nat.le_of_ble_eq_true rfl | simp [bys_length, *]) (show splice _ _ _ = rolC nm (b &&& ofBt (allK 18)) from rfl) ?_
     intro w hp
     refine GL_nil ⟨fun h => absurd h (by decide), ?_⟩
     refine GO_nil ?_
     refine GW_seq ?_
     refine GW_drawnK 8 (.one 0 true (.one 1 true (.one 2 true (.one 3 true (.one 4 true (.one 5 true (.one 6 true (.one 7 false .nil)))))))) mixed (by kernel_rfl) hp (fun _ h => (h.sub (.cons _ (.cons _ (.cons_cons _ (.cons_cons _ (.cons _ (.cons _ (.cons _ .slnil))))))))) fun w hp => ?_
     have hpS27 := (hp.sub (.cons _ (.cons _ (.cons_cons _ (.cons_cons _ (.cons _ (.cons _ (.cons _ .slnil))))))))
     refine GO_rdT (v := .pointer (some ⟨_, _, none⟩)) rfl (wn_none rfl) rfl (fun w => (rd_move rfl rfl)) ?_
     refine GO_rdT rfl (wn_none rfl) rfl (fun w => (rd_nilCheck rfl rfl)) ?_
     refine GO_rdT rfl (wn_none rfl) rfl (fun w => (rd_field rfl rfl fa137_0 _ rfl)) ?_
     refine GO_rd rfl rfl (wn_none rfl) rfl hpS27 (fun w hp => (rd_load rfl rfl Try.underlying134 rfl ((cell_of_cells (hp.get 1 rfl) _).trans rfl))) ?_
     refine GO_rdT rfl (wn_none rfl) rfl (fun w => (rd_field rfl rfl fa59_0 _ rfl)) ?_
     refine GO_rd rfl rfl (wn_none rfl) rfl hpS27 (fun w hp => (rd_load rfl rfl Try.underlying9 rfl ((cell_of_cells (hp.get 0 rfl) _).trans rfl))) ?_
     refine GO_rd rfl rfl (wn_none rfl) rfl hpS27 (fun w hp => (rd_loadC rfl rfl Try.underlying59 rfl ts59 (hp.get 0 rfl) (by first | (rw [bys_length]; first | exact a32_len _) | rfl | simp [bys_length, *]))) ?_
     refine GO_of_GL rfl ?_
     refine GL_putA (i := 4) (wn_none rfl) rfl rfl rfl rfl rfl Try.underlying134 Try.underlying9 hp rfl ?_
     intro w hp
     have hpS28 := (hp.sub (.cons _ (.cons _ (.cons_cons _ (.cons_cons _ (.cons _ (.cons _ (.cons _ .slnil))))))))
     refine GL_nil ⟨fun _ => hpS28, ?_⟩
     refine GO_nil ?_
     refine GW_seq ?_
     refine GW_region ?_
     refine GL_rd (v := .int _ _) (wn_none rfl) rfl (rd_assign rfl rfl) ?_
     refine GL_nil ?_
     refine GW_ret ?_
     have ed : defC RA nm = 0 := by rw [defC, if_pos hc, if_neg (fun q => by rw [hfi] at q; cases q.1)]
     have hp := (((((hp.front 6 rfl).front 6 rfl).front 6 rfl).front 6 rfl).take 4)
     refine ⟨_, res1 Try.results50 (rv_tmp (v := .int _ _) rfl rfl), by rw [ed], ?_⟩
     rw [ed]
     exact hp
set_option maxHeartbeats 1000000 in
theorem gu_Grant (gq rm pm cr cp : Nat) (RA PA : AL) (mk : MK) (ct : CT) (who role : ByteArray) (hz : who.size ≤ 65000) (hct : (ct who).length ≤ 65000) (F0 : List Nat) (w0 : World) (hp0 : Hp w0 F0 w0 [cells gq 137 [.map (some rm), .map (some pm)], .blk rm (.map ⟨alE RA⟩ cr), .blk pm (.map ⟨alE PA⟩ cp), packL (rowsG 9 PA ct)]) (hO : GuOk RA cr mk PA cp ct) : Does Try.prog 51 #[.pointer (some ⟨gq, 0, none⟩), .string who, .string role] w0 fun v w' => v = .int .i64 (graC RA PA ct who role) ∧ if graC RA PA ct who role = 0 then ∃ pv, Hp w0 F0 w' [cells gq 137 [.map (some rm), .map (some pm)], .blk rm (.map ⟨alE RA⟩ cr), .blk pm (.map ⟨alE (alPut PA who pv cp)⟩ (alClk PA who cp)), packL (rowsG 9 (alPut PA who pv cp) (upd1 ct who (ct who ++ [role])))] else Hp w0 F0 w' [cells gq 137 [.map (some rm), .map (some pm)], .blk rm (.map ⟨alE RA⟩ cr), .blk pm (.map ⟨alE PA⟩ cp), packL (rowsG 9 PA ct)] := by
 refine does_of (l := [.pointer (some ⟨gq, 0, none⟩), .string who, .string role]) Try.func51 (by kernel_rfl) rfl Try.ntmps51 rfl rfl (by kernel_rfl) ?_
 have hp := hp0
 refine GW_seq ?_
 refine GW_region ?_
 refine GL_rd (v := .int _ _) (wn_none rfl) rfl (rd_assign rfl rfl) ?_
 refine GL_nil ?_
 refine GW_seq ?_
 refine GW_seq ?_
 refine GW_region ?_
 refine GL_rd (v := .string _) (wn_none rfl) rfl (rd_move rfl rfl) ?_
 refine GL_call (wn_none rfl) rfl rfl (cl_Name who _ (by omega)) rfl ?_
 rintro _ w ⟨rfl, hk⟩
 have hp := hp.comp hk
 refine GL_rd (v := .int _ _) (wn_none rfl) rfl (rd_assign rfl rfl) ?_
 refine GL_nil ?_
 refine GW_seq ?_
 refine GW_region ?_
 refine GL_rd (v := .int _ _) (wn_none rfl) rfl (rd_move rfl rfl) ?_
 refine GL_rd (wn_none rfl) rfl (rd_bin rfl rfl rfl bo_neq) ?_
 refine GL_nil ?_
 refine GW_cond rfl (fun hb => ?_) (fun hb => ?_)
 ·(try simp only [decide_eq_true_eq, decide_eq_false_iff_not, Bool.not_eq_true', Bool.not_eq_false', Bool.not_eq_eq_eq_not, Bool.not_true, Bool.not_false, Int.not_lt, Int.not_le] at hb)
  have hc : ¬ nameC who = 0 := hb
  refine GW_seq ?_
  refine GW_region ?_
  refine GL_rd (v := .int _ _) (wn_none rfl) rfl (rd_move rfl rfl) ?_
  refine GL_rd (v := .int _ _) (wn_none rfl) rfl (rd_assign rfl rfl) ?_
  refine GL_nil ?_
  refine GW_ret ?_
  have ed : graC RA PA ct who role = nameC who := by rw [graC, if_neg hc]
  have hp := (((((hp.front 3 rfl).front 3 rfl).front 3 rfl).front 3 rfl).take 4)
  refine ⟨_, res1 Try.results51 (rv_tmp (v := .int _ _) rfl rfl), by rw [ed], ?_⟩
  rw [if_neg (by omega)]
  exact hp
 ·(try simp only [decide_eq_true_eq, decide_eq_false_iff_not, Bool.not_eq_true', Bool.not_eq_false', Bool.not_eq_eq_eq_not, Bool.not_true, Bool.not_false, Int.not_lt, Int.not_le] at hb)
  have hc : nameC who = 0 := hb
  refine GW_skip ?_
  refine GW_seq ?_
  refine GW_seq ?_
  cases hfi : alG RA role with
  | none =>
   refine GW_region ?_
   refine GL_rd (v := .pointer (some ⟨_, _, none⟩)) (wn_none rfl) rfl (rd_move rfl rfl) ?_
   refine GL_rd (wn_none rfl) rfl (rd_nilCheck rfl rfl) ?_
   refine GL_rd (wn_none rfl) rfl (rd_field rfl rfl fa137_0 _ rfl) ?_
   refine GL_rd (wn_none rfl) rfl (rd_load rfl rfl Try.underlying134 rfl ((cell_of_cells (hp.get 0 rfl) _).trans rfl)) ?_
   refine GL_rd (v := .string _) (wn_none rfl) rfl (rd_move rfl rfl) ?_
   refine GL_rd (v := .tuple #[.agg ⟨[.string ⟨#[]⟩, .int .u32 0]⟩, .bool false]) (wn_none rfl) rfl (rd_eq (rd_lookA rfl rfl rfl Try.underlying134 Try.underlying9 tz59 (hp.get 1 rfl)) (by rw [hfi]; rfl)) ?_
   refine GL_rd (v := .tuple _) (wn_none rfl) rfl (rd_move rfl rfl) ?_
   refine GL_rd (v := .agg ⟨_⟩) (wn_none rfl) rfl (rd_extract rfl rfl rfl) ?_
   refine GL_rd (v := .bool _) (wn_none rfl) rfl (rd_extract rfl rfl rfl) ?_
   refine GL_alloc (wn_none rfl) rfl rfl tz59 rfl hp ?_
   intro g w hp
   refine GL_store (i := 0) (wn_none rfl) rfl rfl rfl rfl ts59 rfl rfl (oneC rfl (oneC rfl one0)) hp rfl (by first | exact Nat.le_of_ble_eq_true rfl | simp [bys_length, *]) rfl ?_
   intro w hp
   refine GL_rd (v := .bool _) (wn_none rfl) rfl (rd_assign rfl rfl) ?_
   refine GL_nil ?_
   refine GW_seq ?_
   refine GW_region ?_
   refine GL_rd (v := .bool _) (wn_none rfl) rfl (rd_move rfl rfl) ?_
   refine GL_rd (wn_none rfl) rfl (rd_not rfl rfl) ?_
   refine GL_nil ?_
   refine GW_true rfl ?_
   refine GW_seq ?_
   refine GW_region ?_
   refine GL_rd (v := .int _ _) (wn_none rfl) rfl (rd_assign rfl rfl) ?_
   refine GL_nil ?_
   refine GW_ret ?_
   have ed : graC RA PA ct who role = 8 := by rw [graC, if_pos hc, if_pos hfi]
   have hp := (((((hp.front 4 rfl).front 4 rfl).front 4 rfl).front 4 rfl).take 4)
   refine ⟨_, res1 Try.results51 (rv_tmp (v := .int _ _) rfl rfl), by rw [ed], ?_⟩
   rw [if_neg (by omega)]
   exact hp
  | some rv0 =>
   have hv := hO.rin role rv0 hfi
   subst hv
   refine GW_region ?_
   refine GL_rd (v := .pointer (some ⟨_, _, none⟩)) (wn_none rfl) rfl (rd_move rfl rfl) ?_
   refine GL_rd (wn_none rfl) rfl (rd_nilCheck rfl rfl) ?_
   refine GL_rd (wn_none rfl) rfl (rd_field rfl rfl fa137_0 _ rfl) ?_
   refine GL_rd (wn_none rfl) rfl (rd_load rfl rfl Try.underlying134 rfl ((cell_of_cells (hp.get 0 rfl) _).trans rfl)) ?_
   refine GL_rd (v := .string _) (wn_none rfl) rfl (rd_move rfl rfl) ?_
   refine GL_rd (v := .tuple #[.agg ⟨rolC role (mk role)⟩, .bool true]) (wn_none rfl) rfl (rd_eq (rd_lookA rfl rfl rfl Try.underlying134 Try.underlying9 tz59 (hp.get 1 rfl)) (by rw [hfi]; rfl)) ?_
   refine GL_rd (v := .tuple _) (wn_none rfl) rfl (rd_move rfl rfl) ?_
   refine GL_rd (v := .agg ⟨_⟩) (wn_none rfl) rfl (rd_extract rfl rfl rfl) ?_
   refine GL_rd (v := .bool _) (wn_none rfl) rfl (rd_extract rfl rfl rfl) ?_
   refine GL_alloc (wn_none rfl) rfl rfl tz59 rfl hp ?_
   intro g2 w hp
   refine GL_store (i := 0) (wn_none rfl) rfl rfl rfl rfl ts59 rfl rfl (oneC rfl (oneC rfl one0)) hp rfl (by first | exact Nat.le_of_ble_eq_true rfl | simp [bys_length, *]) rfl ?_
   intro w hp
   refine GL_rd (v := .bool _) (wn_none rfl) rfl (rd_assign rfl rfl) ?_
   refine GL_nil ?_
   refine GW_seq ?_
   refine GW_region ?_
   refine GL_rd (v := .bool _) (wn_none rfl) rfl (rd_move rfl rfl) ?_
   refine GL_rd (wn_none rfl) rfl (rd_not rfl rfl) ?_
   refine GL_nil ?_
   refine GW_false rfl ?_
   refine GW_skip ?_
   refine GW_seq ?_
   cases hfp : alG PA who with
   | none =>
    refine GW_region ?_
    refine GL_rd (v := .pointer (some ⟨_, _, none⟩)) (wn_none rfl) rfl (rd_move rfl rfl) ?_
    refine GL_rd (wn_none rfl) rfl (rd_nilCheck rfl rfl) ?_
    refine GL_rd (wn_none rfl) rfl (rd_field rfl rfl fa137_1 _ rfl) ?_
    refine GL_rd (wn_none rfl) rfl (rd_load rfl rfl Try.underlying135 rfl ((cell_of_cells (hp.get 1 rfl) _).trans rfl)) ?_
    refine GL_rd (v := .string _) (wn_none rfl) rfl (rd_move rfl rfl) ?_
    refine GL_rd (v := .tuple #[.slice none 0 0, .bool false]) (wn_none rfl) rfl (rd_eq (rd_lookA rfl rfl rfl Try.underlying135 Try.underlying9 tz62 (hp.get 3 rfl)) (by rw [hfp]; rfl)) ?_
    refine GL_rd (v := .tuple _) (wn_none rfl) rfl (rd_move rfl rfl) ?_
    refine GL_rd (v := .slice none 0 0) (wn_none rfl) rfl (rd_extract rfl rfl rfl) ?_
    refine GL_rd (v := .bool _) (wn_none rfl) rfl (rd_extract rfl rfl rfl) ?_
    refine GL_rd (v := .slice none 0 0) (wn_none rfl) rfl (rd_assign rfl rfl) ?_
    refine GL_rd (v := .bool _) (wn_none rfl) rfl (rd_assign rfl rfl) ?_
    refine GL_nil ?_
    refine GW_seq ?_
    refine GW_block ?_
    refine GW_seq ?_
    refine GW_region ?_
    refine GL_rd (v := .slice none 0 0) (wn_none rfl) rfl (rd_move rfl rfl) ?_
    refine GL_rd (v := .string _) (wn_none rfl) rfl (rd_move rfl rfl) ?_
    refine GL_call (wn_none rfl) rfl rfl (sl_HasS _ _ (ct who) role _ (nilP (hO.pno who hfp))) rfl ?_
    rintro _ w ⟨rfl, hk⟩
    have hp := hp.comp hk
    refine GL_rd (v := .bool _) (wn_none rfl) rfl (rd_assign rfl rfl) ?_
    refine GL_nil ?_
    refine GW_cond rfl (fun hb2 => ?_) (fun hb2 => ?_)
    ·(try simp only [decide_eq_true_eq, decide_eq_false_iff_not, Bool.not_eq_true', Bool.not_eq_false', Bool.not_eq_eq_eq_not, Bool.not_true, Bool.not_false, Int.not_lt, Int.not_le] at hb2)
     have hin : role ∈ ct who := hb2
     refine GW_seq ?_
     refine GW_region ?_
     refine GL_rd (v := .int _ _) (wn_none rfl) rfl (rd_assign rfl rfl) ?_
     refine GL_nil ?_
     refine GW_ret ?_
     have ed : graC RA PA ct who role = 9 := by rw [graC, if_pos hc, if_neg (by rw [hfi]; exact fun q => by cases q), if_pos hin]
     have hp := (((((hp.front 4 rfl).front 4 rfl).front 4 rfl).front 4 rfl).take 4)
     refine ⟨_, res1 Try.results51 (rv_tmp (v := .int _ _) rfl rfl), by rw [ed], ?_⟩
     rw [if_neg (by omega)]
     exact hp
    ·(try simp only [decide_eq_true_eq, decide_eq_false_iff_not, Bool.not_eq_true', Bool.not_eq_false', Bool.not_eq_eq_eq_not, Bool.not_true, Bool.not_false, Int.not_lt, Int.not_le] at hb2)
     have hin : ¬ role ∈ ct who := hb2
     refine GW_seq ?_
     refine GW_region ?_
     refine GL_rd (v := .bool _) (wn_none rfl) rfl (rd_move rfl rfl) ?_
     refine GL_rd (wn_none rfl) rfl (rd_not rfl rfl) ?_
     refine GL_rd (v := .bool _) (wn_none rfl) rfl (rd_move rfl rfl) ?_
     refine GL_rd (v := .pointer (some ⟨_, _, none⟩)) (wn_on rfl rfl rfl rfl) rfl (rd_move rfl rfl) ?_
     refine GL_rd (wn_on rfl rfl rfl rfl) rfl (rd_nilCheck rfl rfl) ?_
     refine GL_rd (wn_on rfl rfl rfl rfl) rfl (rd_field rfl rfl fa137_1 _ rfl) ?_
     refine GL_rd (wn_on rfl rfl rfl rfl) rfl (rd_load rfl rfl Try.underlying135 rfl ((cell_of_cells (hp.get 1 rfl) _).trans rfl)) ?_
     refine GL_rd (wn_on rfl rfl rfl rfl) rfl (rd_lenM rfl rfl rfl Try.underlying135 (hp.get 3 rfl)) ?_
     refine GL_rd (wn_on rfl rfl rfl rfl) rfl (rd_bin rfl rfl rfl bo_geq) ?_
     refine GL_rd (v := .bool _) (wn_none rfl) rfl (rd_pickT rfl rfl rfl) ?_
     refine GL_rd (v := .bool _) (wn_none rfl) rfl (rd_assign rfl rfl) ?_
     refine GL_nil ?_
     refine GW_cond rfl (fun hb3 => ?_) (fun hb3 => ?_)
     ·(try simp only [decide_eq_true_eq, decide_eq_false_iff_not, Bool.not_eq_true', Bool.not_eq_false', Bool.not_eq_eq_eq_not, Bool.not_true, Bool.not_false, Int.not_lt, Int.not_le] at hb3)
      refine GW_seq ?_
      refine GW_region ?_
      refine GL_rd (v := .int _ _) (wn_none rfl) rfl (rd_assign rfl rfl) ?_
      refine GL_nil ?_
      refine GW_ret ?_
      have ed : graC RA PA ct who role = 7 := by rw [graC, if_pos hc, if_neg (by rw [hfi]; exact fun q => by cases q), if_neg hin, if_pos ⟨hfp, by omega⟩]
      have hp := (((((hp.front 4 rfl).front 4 rfl).front 4 rfl).front 4 rfl).take 4)
      refine ⟨_, res1 Try.results51 (rv_tmp (v := .int _ _) rfl rfl), by rw [ed], ?_⟩
      rw [if_neg (by omega)]
      exact hp
     ·(try simp only [decide_eq_true_eq, decide_eq_false_iff_not, Bool.not_eq_true', Bool.not_eq_false', Bool.not_eq_eq_eq_not, Bool.not_true, Bool.not_false, Int.not_lt, Int.not_le] at hb3)
      refine GW_skip ?_
      refine GW_seq ?_
      refine GW_drawnK 11 (.one 0 true (.one 1 true (.one 2 true (.one 3 true (.one 4 true (.one 5 true (.one 7 true (.two 6 8 (.one 8 false (.one 9 false (.one 10 false .nil))) (.one 6 false (.one 9 false (.one 10 false .nil))))))))))) mixed (by kernel_rfl) hp (fun _ h => (h.sub (.cons _ (.cons_cons _ (.cons _ (.cons _ (.cons_cons _ .slnil))))))) fun w hp => ?_
      have hpS := (hp.sub (.cons _ (.cons_cons _ (.cons _ (.cons _ (.cons_cons _ .slnil))))))
      refine GO_rdT (v := .pointer (some ⟨_, _, none⟩)) rfl (wn_none rfl) rfl (fun w => (rd_move rfl rfl)) ?_
      refine GO_rdT rfl (wn_none rfl) rfl (fun w => (rd_nilCheck rfl rfl)) ?_
      refine GO_rdT rfl (wn_none rfl) rfl (fun w => (rd_field rfl rfl fa137_1 _ rfl)) ?_
      refine GO_rd rfl rfl (wn_none rfl) rfl hpS (fun w hp => (rd_load rfl rfl Try.underlying135 rfl ((cell_of_cells (hp.get 0 rfl) _).trans rfl))) ?_
      refine GO_rdT (v := .string _) rfl (wn_none rfl) rfl (fun w => (rd_move rfl rfl)) ?_
      refine GO_rdT (v := .slice none 0 0) rfl (wn_none rfl) rfl (fun w => (rd_move rfl rfl)) ?_
      refine GO_rdT (v := .string _) rfl (wn_none rfl) rfl (fun w => (rd_move rfl rfl)) ?_
      refine GO_two rfl rfl ?_ ?_
      ·skip
       refine GC_of_GL ?_
       refine GL_call (wn_none rfl) rfl rfl (sl_CloneS _ _ (ct who) _ (nilP (hO.pno who hfp)) (by omega)) rfl ?_
       intro vs w hk
       have hp := hp.comp hk
       obtain ⟨As, cs, rfl⟩ := row_shape (hp.get 0 rfl)
       have hpS2 := (hp.sub (.cons _ (.cons _ (.cons_cons _ (.cons _ (.cons _ (.cons_cons _ .slnil)))))))
       refine GL_nil ⟨fun _ => hpS2, ?_⟩
       refine GO_of_GL rfl ?_
       refine GL_lit (L := [.string role]) (wn_none rfl) rfl rfl Try.underlying62 ts9 tz9 rfl (by kernel_rfl) rfl rfl hp ?_
       intro g3 w hp
       have hpS3 := (hp.sub (.cons _ (.cons _ (.cons _ (.cons_cons _ (.cons _ (.cons _ (.cons_cons _ .slnil))))))))
       refine GL_nil ⟨fun _ => hpS3, ?_⟩
       refine GO_of_GL rfl ?_
       refine GL_append (i := 1) (wn_none rfl) rfl rfl rfl rfl Try.underlying62 ti9 rfl (by decide) hp rfl (Sl.row (hp.get 0 rfl)) (one1 rfl) (by omega) (by omega) ?_
       intro v w hp
       obtain ⟨Av, cv, rfl⟩ := row_shape (hp.get 1 rfl)
       have hpS4 := (hp.sub (.cons _ (.cons _ (.cons _ (.cons_cons _ (.cons _ (.cons _ (.cons_cons _ .slnil))))))))
       refine GL_nil ⟨fun _ => hpS4, ?_⟩
       refine GO_of_GL rfl ?_
       refine GL_putA (i := 5) (wn_none rfl) rfl rfl rfl rfl rfl Try.underlying135 Try.underlying9 hp rfl ?_
       intro w hp
       have hpS5 := (hp.sub (.cons _ (.cons _ (.cons _ (.cons_cons _ (.cons _ (.cons _ (.cons_cons _ .slnil))))))))
       refine GL_nil ⟨fun _ => hpS5, ?_⟩
       refine GO_nil ?_
       refine GW_seq ?_
       refine GW_region ?_
       refine GL_rd (v := .int _ _) (wn_none rfl) rfl (rd_assign rfl rfl) ?_
       refine GL_nil ?_
       refine GW_ret ?_
       have ed : graC RA PA ct who role = 0 := by rw [graC, if_pos hc, if_neg (by rw [hfi]; exact fun q => by cases q), if_neg hin, if_neg (fun q => by first | (rw [hfp] at q; cases q.1; done) | omega)]
       have hp := ((((((hp.front 5 rfl).front 5 rfl).front 5 rfl).front 6 rfl).front 5 rfl).take 5)
       rw [stR_snocG] at hp
       have hp := hp.granted (who := who) hO.pok
       refine ⟨_, res1 Try.results51 (rv_tmp (v := .int _ _) rfl rfl), by rw [ed], ?_⟩
       rw [if_pos ed]
       exact ⟨_, ((hp.front 3 rfl).front 3 rfl).front 3 rfl⟩
      ·skip
       refine GC_of_GL ?_
       refine GL_lit (L := [.string role]) (wn_none rfl) rfl rfl Try.underlying62 ts9 tz9 rfl (by kernel_rfl) rfl rfl hp ?_
       intro g4 w hp
       have hpS6 := (hp.sub (.cons _ (.cons _ (.cons_cons _ (.cons _ (.cons _ (.cons_cons _ .slnil)))))))
       refine GL_nil ⟨fun _ => hpS6, ?_⟩
       refine GO_of_GL rfl ?_
       refine GL_call (wn_none rfl) rfl rfl (sl_CloneS _ _ (ct who) _ (nilP (hO.pno who hfp)) (by omega)) rfl ?_
       intro vs w hk
       have hp := hp.comp hk
       obtain ⟨As, cs, rfl⟩ := row_shape (hp.get 0 rfl)
       have hpS7 := (hp.sub (.cons _ (.cons _ (.cons _ (.cons_cons _ (.cons _ (.cons _ (.cons_cons _ .slnil))))))))
       refine GL_nil ⟨fun _ => hpS7, ?_⟩
       refine GO_of_GL rfl ?_
       refine GL_append (i := 0) (wn_none rfl) rfl rfl rfl rfl Try.underlying62 ti9 rfl (by decide) hp rfl (Sl.row (hp.get 1 rfl)) (one1 rfl) (by omega) (by omega) ?_
       intro v2 w hp
       obtain ⟨Av2, cv2, rfl⟩ := row_shape (hp.get 0 rfl)
       have hpS8 := (hp.sub (.cons _ (.cons _ (.cons _ (.cons_cons _ (.cons _ (.cons _ (.cons_cons _ .slnil))))))))
       refine GL_nil ⟨fun _ => hpS8, ?_⟩
       refine GO_of_GL rfl ?_
       refine GL_putA (i := 5) (wn_none rfl) rfl rfl rfl rfl rfl Try.underlying135 Try.underlying9 hp rfl ?_
       intro w hp
       have hpS9 := (hp.sub (.cons _ (.cons _ (.cons _ (.cons_cons _ (.cons _ (.cons _ (.cons_cons _ .slnil))))))))
       refine GL_nil ⟨fun _ => hpS9, ?_⟩
       refine GO_nil ?_
       refine GW_seq ?_
       refine GW_region ?_
       refine GL_rd (v := .int _ _) (wn_none rfl) rfl (rd_assign rfl rfl) ?_
       refine GL_nil ?_
       refine GW_ret ?_
       have ed : graC RA PA ct who role = 0 := by rw [graC, if_pos hc, if_neg (by rw [hfi]; exact fun q => by cases q), if_neg hin, if_neg (fun q => by first | (rw [hfp] at q; cases q.1; done) | omega)]
       have hp := ((((((hp.front 5 rfl).front 5 rfl).front 5 rfl).front 6 rfl).front 4 rfl).take 5)
       rw [stR_snocG] at hp
       have hp := hp.granted (who := who) hO.pok
       refine ⟨_, res1 Try.results51 (rv_tmp (v := .int _ _) rfl rfl), by rw [ed], ?_⟩
       rw [if_pos ed]
       exact ⟨_, ((hp.front 3 rfl).front 3 rfl).front 3 rfl⟩
   | some pv0 =>
    refine GW_region ?_
    refine GL_rd (v := .pointer (some ⟨_, _, none⟩)) (wn_none rfl) rfl (rd_move rfl rfl) ?_
    refine GL_rd (wn_none rfl) rfl (rd_nilCheck rfl rfl) ?_
    refine GL_rd (wn_none rfl) rfl (rd_field rfl rfl fa137_1 _ rfl) ?_
    refine GL_rd (wn_none rfl) rfl (rd_load rfl rfl Try.underlying135 rfl ((cell_of_cells (hp.get 1 rfl) _).trans rfl)) ?_
    refine GL_rd (v := .string _) (wn_none rfl) rfl (rd_move rfl rfl) ?_
    refine GL_rd (v := .tuple #[pv0, .bool true]) (wn_none rfl) rfl (rd_eq (rd_lookA rfl rfl rfl Try.underlying135 Try.underlying9 tz62 (hp.get 3 rfl)) (by rw [hfp]; rfl)) ?_
    refine GL_rd (v := .tuple _) (wn_none rfl) rfl (rd_move rfl rfl) ?_
    refine GL_rd (v := pv0) (wn_none rfl) rfl (rd_extract rfl rfl rfl) ?_
    refine GL_rd (v := .bool _) (wn_none rfl) rfl (rd_extract rfl rfl rfl) ?_
    refine GL_rd (v := pv0) (wn_none rfl) rfl (rd_assign rfl rfl) ?_
    refine GL_rd (v := .bool _) (wn_none rfl) rfl (rd_assign rfl rfl) ?_
    refine GL_nil ?_
    refine GW_seq ?_
    refine GW_block ?_
    refine GW_seq ?_
    refine GW_region ?_
    refine GL_rd (v := pv0) (wn_none rfl) rfl (rd_move rfl rfl) ?_
    refine GL_rd (v := .string _) (wn_none rfl) rfl (rd_move rfl rfl) ?_
    refine GL_call (wn_none rfl) rfl rfl (sl_HasS _ _ (ct who) role _ (lookP (hp.get 4 rfl) hfp)) rfl ?_
    rintro _ w ⟨rfl, hk⟩
    have hp := hp.comp hk
    refine GL_rd (v := .bool _) (wn_none rfl) rfl (rd_assign rfl rfl) ?_
    refine GL_nil ?_
    refine GW_cond rfl (fun hb4 => ?_) (fun hb4 => ?_)
    ·(try simp only [decide_eq_true_eq, decide_eq_false_iff_not, Bool.not_eq_true', Bool.not_eq_false', Bool.not_eq_eq_eq_not, Bool.not_true, Bool.not_false, Int.not_lt, Int.not_le] at hb4)
     have hin : role ∈ ct who := hb4
     refine GW_seq ?_
     refine GW_region ?_
     refine GL_rd (v := .int _ _) (wn_none rfl) rfl (rd_assign rfl rfl) ?_
     refine GL_nil ?_
     refine GW_ret ?_
     have ed : graC RA PA ct who role = 9 := by rw [graC, if_pos hc, if_neg (by rw [hfi]; exact fun q => by cases q), if_pos hin]
     have hp := (((((hp.front 4 rfl).front 4 rfl).front 4 rfl).front 4 rfl).take 4)
     refine ⟨_, res1 Try.results51 (rv_tmp (v := .int _ _) rfl rfl), by rw [ed], ?_⟩
     rw [if_neg (by omega)]
     exact hp
    ·(try simp only [decide_eq_true_eq, decide_eq_false_iff_not, Bool.not_eq_true', Bool.not_eq_false', Bool.not_eq_eq_eq_not, Bool.not_true, Bool.not_false, Int.not_lt, Int.not_le] at hb4)
     have hin : ¬ role ∈ ct who := hb4
     refine GW_seq ?_
     refine GW_region ?_
     refine GL_rd (v := .bool _) (wn_none rfl) rfl (rd_move rfl rfl) ?_
     refine GL_rd (wn_none rfl) rfl (rd_not rfl rfl) ?_
     refine GL_rd (v := .bool _) (wn_none rfl) rfl (rd_move rfl rfl) ?_
     refine GL_pass (nw_off rfl rfl rfl rfl rfl) rfl ?_
     refine GL_pass (nw_off rfl rfl rfl rfl rfl) rfl ?_
     refine GL_pass (nw_off rfl rfl rfl rfl rfl) rfl ?_
     refine GL_pass (nw_off rfl rfl rfl rfl rfl) rfl ?_
     refine GL_pass (nw_off rfl rfl rfl rfl rfl) rfl ?_
     refine GL_pass (nw_off rfl rfl rfl rfl rfl) rfl ?_
     refine GL_rd (v := .bool _) (wn_none rfl) rfl (rd_pickF rfl rfl rfl) ?_
     refine GL_rd (v := .bool _) (wn_none rfl) rfl (rd_assign rfl rfl) ?_
     refine GL_nil ?_
     refine GW_false rfl ?_
     refine GW_skip ?_
     refine GW_seq ?_
     refine GW_drawnK 11 (.one 0 true (.one 1 true (.one 2 true (.one 3 true (.one 4 true (.one 5 true (.one 7 true (.two 6 8 (.one 8 false (.one 9 false (.one 10 false .nil))) (.one 6 false (.one 9 false (.one 10 false .nil))))))))))) mixed (by kernel_rfl) hp (fun _ h => (h.sub (.cons _ (.cons_cons _ (.cons _ (.cons _ (.cons_cons _ .slnil))))))) fun w hp => ?_
     have hpS10 := (hp.sub (.cons _ (.cons_cons _ (.cons _ (.cons _ (.cons_cons _ .slnil))))))
     refine GO_rdT (v := .pointer (some ⟨_, _, none⟩)) rfl (wn_none rfl) rfl (fun w => (rd_move rfl rfl)) ?_
     refine GO_rdT rfl (wn_none rfl) rfl (fun w => (rd_nilCheck rfl rfl)) ?_
     refine GO_rdT rfl (wn_none rfl) rfl (fun w => (rd_field rfl rfl fa137_1 _ rfl)) ?_
     refine GO_rd rfl rfl (wn_none rfl) rfl hpS10 (fun w hp => (rd_load rfl rfl Try.underlying135 rfl ((cell_of_cells (hp.get 0 rfl) _).trans rfl))) ?_
     refine GO_rdT (v := .string _) rfl (wn_none rfl) rfl (fun w => (rd_move rfl rfl)) ?_
     refine GO_rdT (v := pv0) rfl (wn_none rfl) rfl (fun w => (rd_move rfl rfl)) ?_
     refine GO_rdT (v := .string _) rfl (wn_none rfl) rfl (fun w => (rd_move rfl rfl)) ?_
     refine GO_two rfl rfl ?_ ?_
     ·skip
      refine GC_of_GL ?_
      refine GL_call (wn_none rfl) rfl rfl (sl_CloneS _ _ (ct who) _ (lookP (hp.get 4 rfl) hfp) (by omega)) rfl ?_
      intro vs w hk
      have hp := hp.comp hk
      obtain ⟨As, cs, rfl⟩ := row_shape (hp.get 0 rfl)
      have hpS11 := (hp.sub (.cons _ (.cons _ (.cons_cons _ (.cons _ (.cons _ (.cons_cons _ .slnil)))))))
      refine GL_nil ⟨fun _ => hpS11, ?_⟩
      refine GO_of_GL rfl ?_
      refine GL_lit (L := [.string role]) (wn_none rfl) rfl rfl Try.underlying62 ts9 tz9 rfl (by kernel_rfl) rfl rfl hp ?_
      intro g5 w hp
      have hpS12 := (hp.sub (.cons _ (.cons _ (.cons _ (.cons_cons _ (.cons _ (.cons _ (.cons_cons _ .slnil))))))))
      refine GL_nil ⟨fun _ => hpS12, ?_⟩
      refine GO_of_GL rfl ?_
      refine GL_append (i := 1) (wn_none rfl) rfl rfl rfl rfl Try.underlying62 ti9 rfl (by decide) hp rfl (Sl.row (hp.get 0 rfl)) (one1 rfl) (by omega) (by omega) ?_
      intro v3 w hp
      obtain ⟨Av3, cv3, rfl⟩ := row_shape (hp.get 1 rfl)
      have hpS13 := (hp.sub (.cons _ (.cons _ (.cons _ (.cons_cons _ (.cons _ (.cons _ (.cons_cons _ .slnil))))))))
      refine GL_nil ⟨fun _ => hpS13, ?_⟩
      refine GO_of_GL rfl ?_
      refine GL_putA (i := 5) (wn_none rfl) rfl rfl rfl rfl rfl Try.underlying135 Try.underlying9 hp rfl ?_
      intro w hp
      have hpS14 := (hp.sub (.cons _ (.cons _ (.cons _ (.cons_cons _ (.cons _ (.cons _ (.cons_cons _ .slnil))))))))
      refine GL_nil ⟨fun _ => hpS14, ?_⟩
      refine GO_nil ?_
      refine GW_seq ?_
      refine GW_region ?_
      refine GL_rd (v := .int _ _) (wn_none rfl) rfl (rd_assign rfl rfl) ?_
      refine GL_nil ?_
      refine GW_ret ?_
      have ed : graC RA PA ct who role = 0 := by rw [graC, if_pos hc, if_neg (by rw [hfi]; exact fun q => by cases q), if_neg hin, if_neg (fun q => by first | (rw [hfp] at q; cases q.1; done) | omega)]
      have hp := ((((((hp.front 5 rfl).front 5 rfl).front 5 rfl).front 6 rfl).front 5 rfl).take 5)
      rw [stR_snocG] at hp
      have hp := hp.granted (who := who) hO.pok
      refine ⟨_, res1 Try.results51 (rv_tmp (v := .int _ _) rfl rfl), by rw [ed], ?_⟩
      rw [if_pos ed]
      exact ⟨_, ((hp.front 3 rfl).front 3 rfl).front 3 rfl⟩
     ·skip
      refine GC_of_GL ?_
      refine GL_lit (L := [.string role]) (wn_none rfl) rfl rfl Try.underlying62 ts9 tz9 rfl (by kernel_rfl) rfl rfl hp ?_
      intro g6 w hp
      have hpS15 := (hp.sub (.cons _ (.cons _ (.cons_cons _ (.cons _ (.cons _ (.cons_cons _ .slnil)))))))
      refine GL_nil ⟨fun _ => hpS15, ?_⟩
      refine GO_of_GL rfl ?_
      refine GL_call (wn_none rfl) rfl rfl (sl_CloneS _ _ (ct who) _ (lookP (hp.get 5 rfl) hfp) (by omega)) rfl ?_
      intro vs w hk
      have hp := hp.comp hk
      obtain ⟨As, cs, rfl⟩ := row_shape (hp.get 0 rfl)
      have hpS16 := (hp.sub (.cons _ (.cons _ (.cons _ (.cons_cons _ (.cons _ (.cons _ (.cons_cons _ .slnil))))))))
      refine GL_nil ⟨fun _ => hpS16, ?_⟩
      refine GO_of_GL rfl ?_
      refine GL_append (i := 0) (wn_none rfl) rfl rfl rfl rfl Try.underlying62 ti9 rfl (by decide) hp rfl (Sl.row (hp.get 1 rfl)) (one1 rfl) (by omega) (by omega) ?_
      intro v4 w hp
      obtain ⟨Av4, cv4, rfl⟩ := row_shape (hp.get 0 rfl)
      have hpS17 := (hp.sub (.cons _ (.cons _ (.cons _ (.cons_cons _ (.cons _ (.cons _ (.cons_cons _ .slnil))))))))
      refine GL_nil ⟨fun _ => hpS17, ?_⟩
      refine GO_of_GL rfl ?_
      refine GL_putA (i := 5) (wn_none rfl) rfl rfl rfl rfl rfl Try.underlying135 Try.underlying9 hp rfl ?_
      intro w hp
      have hpS18 := (hp.sub (.cons _ (.cons _ (.cons _ (.cons_cons _ (.cons _ (.cons _ (.cons_cons _ .slnil))))))))
      refine GL_nil ⟨fun _ => hpS18, ?_⟩
      refine GO_nil ?_
      refine GW_seq ?_
      refine GW_region ?_
      refine GL_rd (v := .int _ _) (wn_none rfl) rfl (rd_assign rfl rfl) ?_
      refine GL_nil ?_
      refine GW_ret ?_
      have ed : graC RA PA ct who role = 0 := by rw [graC, if_pos hc, if_neg (by rw [hfi]; exact fun q => by cases q), if_neg hin, if_neg (fun q => by first | (rw [hfp] at q; cases q.1; done) | omega)]
      have hp := ((((((hp.front 5 rfl).front 5 rfl).front 5 rfl).front 6 rfl).front 4 rfl).take 5)
      rw [stR_snocG] at hp
      have hp := hp.granted (who := who) hO.pok
      refine ⟨_, res1 Try.results51 (rv_tmp (v := .int _ _) rfl rfl), by rw [ed], ?_⟩
      rw [if_pos ed]
      exact ⟨_, ((hp.front 3 rfl).front 3 rfl).front 3 rfl⟩
set_option maxHeartbeats 1000000 in
theorem gu_Revoke (gq rm pm cr cp : Nat) (RA PA : AL) (mk : MK) (ct : CT) (who role : ByteArray) (hct : (ct who).length ≤ 65000) (F0 : List Nat) (w0 : World) (hp0 : Hp w0 F0 w0 [cells gq 137 [.map (some rm), .map (some pm)], .blk rm (.map ⟨alE RA⟩ cr), .blk pm (.map ⟨alE PA⟩ cp), packL (rowsG 9 PA ct)]) (hO : GuOk RA cr mk PA cp ct) : Does Try.prog 54 #[.pointer (some ⟨gq, 0, none⟩), .string who, .string role] w0 fun v w' => (¬ role ∈ ct who ∧ v = .int .i64 8 ∧ Hp w0 F0 w' [cells gq 137 [.map (some rm), .map (some pm)], .blk rm (.map ⟨alE RA⟩ cr), .blk pm (.map ⟨alE PA⟩ cp), packL (rowsG 9 PA ct)]) ∨ ∃ i PA' cp', i < (ct who).length ∧ strAt (ct who) i = role ∧ (∀ j, j < i → ¬ strAt (ct who) j = role) ∧ v = .int .i64 0 ∧ GuOk RA cr mk PA' cp' (upd1 ct who (cutS (ct who) i)) ∧ (∀ s, alG PA' s = none ↔ if s = who then (cutS (ct who) i) = [] else alG PA s = none) ∧ Hp w0 F0 w' [cells gq 137 [.map (some rm), .map (some pm)], .blk rm (.map ⟨alE RA⟩ cr), .blk pm (.map ⟨alE PA'⟩ cp'), packL (rowsG 9 PA' (upd1 ct who (cutS (ct who) i)))] := by
 refine does_of (l := [.pointer (some ⟨gq, 0, none⟩), .string who, .string role]) Try.func54 (by kernel_rfl) rfl Try.ntmps54 rfl rfl (by kernel_rfl) ?_
 have hp := hp0
 refine GW_seq ?_
 refine GW_region ?_
 refine GL_rd (v := .int _ _) (wn_none rfl) rfl (rd_assign rfl rfl) ?_
 refine GL_nil ?_
 refine GW_seq ?_
 cases hfp : alG PA who with
 | none =>
  refine GW_region ?_
  refine GL_rd (v := .pointer (some ⟨_, _, none⟩)) (wn_none rfl) rfl (rd_move rfl rfl) ?_
  refine GL_rd (wn_none rfl) rfl (rd_nilCheck rfl rfl) ?_
  refine GL_rd (wn_none rfl) rfl (rd_field rfl rfl fa137_1 _ rfl) ?_
  refine GL_rd (wn_none rfl) rfl (rd_load rfl rfl Try.underlying135 rfl ((cell_of_cells (hp.get 0 rfl) _).trans rfl)) ?_
  refine GL_rd (v := .string _) (wn_none rfl) rfl (rd_move rfl rfl) ?_
  refine GL_rd (v := .slice none 0 0) (wn_none rfl) rfl (rd_eq (rd_lookA1 rfl rfl rfl Try.underlying135 Try.underlying9 tz62 (hp.get 2 rfl)) (by rw [hfp]; rfl)) ?_
  refine GL_rd (v := .slice none 0 0) (wn_none rfl) rfl (rd_assign rfl rfl) ?_
  refine GL_nil ?_
  refine GW_seq ?_
  refine GW_region ?_
  refine GL_rd (v := .slice none 0 0) (wn_none rfl) rfl (rd_move rfl rfl) ?_
  refine GL_rd (v := .string _) (wn_none rfl) rfl (rd_move rfl rfl) ?_
  refine GL_call (wn_none rfl) rfl rfl (sl_IndexF _ _ (ct who) role _ (nilP (hO.pno who hfp))) rfl ?_
  rintro _ w ⟨q, rfl, hq, hk⟩
  have hp := hp.comp hk
  refine GL_rd (v := .int _ _) (wn_none rfl) rfl (rd_assign rfl rfl) ?_
  refine GL_nil ?_
  refine GW_seq ?_
  refine GW_seq ?_
  refine GW_region ?_
  refine GL_rd (v := .int _ _) (wn_none rfl) rfl (rd_move rfl rfl) ?_
  refine GL_rd (wn_none rfl) rfl (rd_bin rfl rfl rfl bo_lss) ?_
  refine GL_nil ?_
  refine GW_cond rfl (fun hb => ?_) (fun hb => ?_)
  ·(try simp only [decide_eq_true_eq, decide_eq_false_iff_not, Bool.not_eq_true', Bool.not_eq_false', Bool.not_eq_eq_eq_not, Bool.not_true, Bool.not_false, Int.not_lt, Int.not_le] at hb)
   have hin : ¬ role ∈ ct who := by rcases hq with ⟨_, h⟩ | ⟨i, e, _⟩; exact h; exact absurd hb (by omega)
   refine GW_seq ?_
   refine GW_region ?_
   refine GL_rd (v := .int _ _) (wn_none rfl) rfl (rd_assign rfl rfl) ?_
   refine GL_nil ?_
   refine GW_ret ?_
   have hp := (((((hp.front 3 rfl).front 3 rfl).front 3 rfl).front 3 rfl).take 4)
   exact ⟨_, res1 Try.results54 (rv_tmp (v := .int _ _) rfl rfl), .inl ⟨hin, rfl, hp⟩⟩
  ·(try simp only [decide_eq_true_eq, decide_eq_false_iff_not, Bool.not_eq_true', Bool.not_eq_false', Bool.not_eq_eq_eq_not, Bool.not_true, Bool.not_false, Int.not_lt, Int.not_le] at hb)
   obtain ⟨i, rfl, hi, he, hno⟩ : ∃ i : Nat, q = (i : Int) ∧ i < (ct who).length ∧ strAt (ct who) i = role ∧ ∀ j, j < i → ¬ strAt (ct who) j = role := by rcases hq with ⟨e, _⟩ | h; exact absurd hb (by omega); exact h
   refine GW_skip ?_
   refine GW_seq ?_
   refine GW_region ?_
   refine GL_rd (v := .slice none 0 0) (wn_none rfl) rfl (rd_move rfl rfl) ?_
   refine GL_call (wn_none rfl) rfl rfl (sl_CloneS _ _ (ct who) _ (nilP (hO.pno who hfp)) (by omega)) rfl ?_
   intro vs w hk
   have hp := hp.comp hk
   obtain ⟨As, cs, rfl⟩ := row_shape (hp.get 0 rfl)
   refine GL_rd (v := .int _ _) (wn_none rfl) rfl (rd_move rfl rfl) ?_
   refine GL_rd (v := .int _ _) (wn_none rfl) rfl (rd_move rfl rfl) ?_
   refine GL_rd (wn_none rfl) rfl (rd_bin rfl rfl rfl (bo_add64 (by omega))) ?_
   refine GL_call (wn_none rfl) rfl rfl (sl_DeleteG (hp.get 0 rfl) hi) rfl ?_
   intro vd w hk
   have hp := hp.turnAtMore 0 rfl hk
   obtain ⟨Ad, cd, rfl⟩ := row_shape (hp.get 0 rfl)
   refine GL_rd (v := .slice _ _ _) (wn_none rfl) rfl (rd_assign rfl rfl) ?_
   refine GL_nil ?_
   refine GW_seq ?_
   refine GW_seq ?_
   refine GW_region ?_
   refine GL_rd (v := .slice _ _ _) (wn_none rfl) rfl (rd_move rfl rfl) ?_
   refine GL_rd (wn_none rfl) rfl (rd_len rfl rfl Try.underlying62) ?_
   refine GL_rd (wn_none rfl) rfl (rd_bin rfl rfl rfl bo_eql) ?_
   refine GL_nil ?_
   refine GW_cond rfl (fun hb2 => ?_) (fun hb2 => ?_)
   ·(try simp only [decide_eq_true_eq, decide_eq_false_iff_not, Bool.not_eq_true', Bool.not_eq_false', Bool.not_eq_eq_eq_not, Bool.not_true, Bool.not_false, Int.not_lt, Int.not_le] at hb2)
    have hl0 : (cutS (ct who) i) = [] := List.eq_nil_of_length_eq_zero (by have := hb2; omega)
    refine GW_seq ?_
    refine GW_region ?_
    refine GL_rd (v := .pointer (some ⟨_, _, none⟩)) (wn_none rfl) rfl (rd_move rfl rfl) ?_
    refine GL_rd (wn_none rfl) rfl (rd_nilCheck rfl rfl) ?_
    refine GL_rd (wn_none rfl) rfl (rd_field rfl rfl fa137_1 _ rfl) ?_
    refine GL_rd (wn_none rfl) rfl (rd_load rfl rfl Try.underlying135 rfl ((cell_of_cells (hp.get 1 rfl) _).trans rfl)) ?_
    refine GL_rd (v := .string _) (wn_none rfl) rfl (rd_move rfl rfl) ?_
    refine GL_delA (i := 3) (wn_none rfl) rfl rfl rfl rfl rfl Try.underlying135 Try.underlying9 hp rfl ?_
    intro w hp
    refine GL_nil ?_
    refine GW_seq ?_
    refine GW_region ?_
    refine GL_rd (v := .int _ _) (wn_none rfl) rfl (rd_assign rfl rfl) ?_
    refine GL_nil ?_
    refine GW_ret ?_
    have hnp : ¬ alG PA who = none := fun e => by rw [hO.pno who e] at hi; simp at hi
    have hp := (((((hp.front 3 rfl).front 3 rfl).front 3 rfl).front 4 rfl).take 4)
    have hp := hp.revoked (who := who) hO.pok hnp
    have ho := hO.revoke who
    rw [← hl0] at ho hp
    exact ⟨_, res1 Try.results54 (rv_tmp (v := .int _ _) rfl rfl), .inr ⟨i, _, _, hi, he, hno, rfl, ho, none_del hO.pok hl0, ((hp.front 3 rfl).front 3 rfl).front 3 rfl⟩⟩
   ·(try simp only [decide_eq_true_eq, decide_eq_false_iff_not, Bool.not_eq_true', Bool.not_eq_false', Bool.not_eq_eq_eq_not, Bool.not_true, Bool.not_false, Int.not_lt, Int.not_le] at hb2)
    have hl0 : ¬ (cutS (ct who) i) = [] := fun e => hb2 (by rw [e]; rfl)
    refine GW_skip ?_
    refine GW_seq ?_
    refine GW_region ?_
    refine GL_rd (v := .pointer (some ⟨_, _, none⟩)) (wn_none rfl) rfl (rd_move rfl rfl) ?_
    refine GL_rd (wn_none rfl) rfl (rd_nilCheck rfl rfl) ?_
    refine GL_rd (wn_none rfl) rfl (rd_field rfl rfl fa137_1 _ rfl) ?_
    refine GL_rd (wn_none rfl) rfl (rd_load rfl rfl Try.underlying135 rfl ((cell_of_cells (hp.get 1 rfl) _).trans rfl)) ?_
    refine GL_rd (v := .string _) (wn_none rfl) rfl (rd_move rfl rfl) ?_
    refine GL_rd (v := .slice _ _ _) (wn_none rfl) rfl (rd_move rfl rfl) ?_
    refine GL_putA (i := 3) (wn_none rfl) rfl rfl rfl rfl rfl Try.underlying135 Try.underlying9 hp rfl ?_
    intro w hp
    refine GL_nil ?_
    refine GW_seq ?_
    refine GW_region ?_
    refine GL_rd (v := .int _ _) (wn_none rfl) rfl (rd_assign rfl rfl) ?_
    refine GL_nil ?_
    refine GW_ret ?_
    have hp := ((((((hp.front 3 rfl).front 3 rfl).front 3 rfl).front 4 rfl).front 4 rfl).take 5)
    have hp := Hp.granted (l := (cutS (ct who) i)) (who := who) hp hO.pok
    exact ⟨_, res1 Try.results54 (rv_tmp (v := .int _ _) rfl rfl), .inr ⟨i, _, _, hi, he, hno, rfl, hO.grant who _ _, none_put hl0, ((hp.front 3 rfl).front 3 rfl).front 3 rfl⟩⟩
 | some pv0 =>
  refine GW_region ?_
  refine GL_rd (v := .pointer (some ⟨_, _, none⟩)) (wn_none rfl) rfl (rd_move rfl rfl) ?_
  refine GL_rd (wn_none rfl) rfl (rd_nilCheck rfl rfl) ?_
  refine GL_rd (wn_none rfl) rfl (rd_field rfl rfl fa137_1 _ rfl) ?_
  refine GL_rd (wn_none rfl) rfl (rd_load rfl rfl Try.underlying135 rfl ((cell_of_cells (hp.get 0 rfl) _).trans rfl)) ?_
  refine GL_rd (v := .string _) (wn_none rfl) rfl (rd_move rfl rfl) ?_
  refine GL_rd (v := pv0) (wn_none rfl) rfl (rd_eq (rd_lookA1 rfl rfl rfl Try.underlying135 Try.underlying9 tz62 (hp.get 2 rfl)) (by rw [hfp]; rfl)) ?_
  refine GL_rd (v := pv0) (wn_none rfl) rfl (rd_assign rfl rfl) ?_
  refine GL_nil ?_
  refine GW_seq ?_
  refine GW_region ?_
  refine GL_rd (v := pv0) (wn_none rfl) rfl (rd_move rfl rfl) ?_
  refine GL_rd (v := .string _) (wn_none rfl) rfl (rd_move rfl rfl) ?_
  refine GL_call (wn_none rfl) rfl rfl (sl_IndexF _ _ (ct who) role _ (lookP (hp.get 3 rfl) hfp)) rfl ?_
  rintro _ w ⟨q, rfl, hq, hk⟩
  have hp := hp.comp hk
  refine GL_rd (v := .int _ _) (wn_none rfl) rfl (rd_assign rfl rfl) ?_
  refine GL_nil ?_
  refine GW_seq ?_
  refine GW_seq ?_
  refine GW_region ?_
  refine GL_rd (v := .int _ _) (wn_none rfl) rfl (rd_move rfl rfl) ?_
  refine GL_rd (wn_none rfl) rfl (rd_bin rfl rfl rfl bo_lss) ?_
  refine GL_nil ?_
  refine GW_cond rfl (fun hb3 => ?_) (fun hb3 => ?_)
  ·(try simp only [decide_eq_true_eq, decide_eq_false_iff_not, Bool.not_eq_true', Bool.not_eq_false', Bool.not_eq_eq_eq_not, Bool.not_true, Bool.not_false, Int.not_lt, Int.not_le] at hb3)
   have hin : ¬ role ∈ ct who := by rcases hq with ⟨_, h⟩ | ⟨i, e, _⟩; exact h; exact absurd hb3 (by omega)
   refine GW_seq ?_
   refine GW_region ?_
   refine GL_rd (v := .int _ _) (wn_none rfl) rfl (rd_assign rfl rfl) ?_
   refine GL_nil ?_
   refine GW_ret ?_
   have hp := (((((hp.front 3 rfl).front 3 rfl).front 3 rfl).front 3 rfl).take 4)
   exact ⟨_, res1 Try.results54 (rv_tmp (v := .int _ _) rfl rfl), .inl ⟨hin, rfl, hp⟩⟩
  ·(try simp only [decide_eq_true_eq, decide_eq_false_iff_not, Bool.not_eq_true', Bool.not_eq_false', Bool.not_eq_eq_eq_not, Bool.not_true, Bool.not_false, Int.not_lt, Int.not_le] at hb3)
   obtain ⟨i, rfl, hi, he, hno⟩ : ∃ i : Nat, q = (i : Int) ∧ i < (ct who).length ∧ strAt (ct who) i = role ∧ ∀ j, j < i → ¬ strAt (ct who) j = role := by rcases hq with ⟨e, _⟩ | h; exact absurd hb3 (by omega); exact h
   refine GW_skip ?_
   refine GW_seq ?_
   refine GW_region ?_
   refine GL_rd (v := pv0) (wn_none rfl) rfl (rd_move rfl rfl) ?_
   refine GL_call (wn_none rfl) rfl rfl (sl_CloneS _ _ (ct who) _ (lookP (hp.get 3 rfl) hfp) (by omega)) rfl ?_
   intro vs w hk
   have hp := hp.comp hk
   obtain ⟨As, cs, rfl⟩ := row_shape (hp.get 0 rfl)
   refine GL_rd (v := .int _ _) (wn_none rfl) rfl (rd_move rfl rfl) ?_
   refine GL_rd (v := .int _ _) (wn_none rfl) rfl (rd_move rfl rfl) ?_
   refine GL_rd (wn_none rfl) rfl (rd_bin rfl rfl rfl (bo_add64 (by omega))) ?_
   refine GL_call (wn_none rfl) rfl rfl (sl_DeleteG (hp.get 0 rfl) hi) rfl ?_
   intro vd w hk
   have hp := hp.turnAtMore 0 rfl hk
   obtain ⟨Ad, cd, rfl⟩ := row_shape (hp.get 0 rfl)
   refine GL_rd (v := .slice _ _ _) (wn_none rfl) rfl (rd_assign rfl rfl) ?_
   refine GL_nil ?_
   refine GW_seq ?_
   refine GW_seq ?_
   refine GW_region ?_
   refine GL_rd (v := .slice _ _ _) (wn_none rfl) rfl (rd_move rfl rfl) ?_
   refine GL_rd (wn_none rfl) rfl (rd_len rfl rfl Try.underlying62) ?_
   refine GL_rd (wn_none rfl) rfl (rd_bin rfl rfl rfl bo_eql) ?_
   refine GL_nil ?_
   refine GW_cond rfl (fun hb4 => ?_) (fun hb4 => ?_)
   ·(try simp only [decide_eq_true_eq, decide_eq_false_iff_not, Bool.not_eq_true', Bool.not_eq_false', Bool.not_eq_eq_eq_not, Bool.not_true, Bool.not_false, Int.not_lt, Int.not_le] at hb4)
    have hl0 : (cutS (ct who) i) = [] := List.eq_nil_of_length_eq_zero (by have := hb4; omega)
    refine GW_seq ?_
    refine GW_region ?_
    refine GL_rd (v := .pointer (some ⟨_, _, none⟩)) (wn_none rfl) rfl (rd_move rfl rfl) ?_
    refine GL_rd (wn_none rfl) rfl (rd_nilCheck rfl rfl) ?_
    refine GL_rd (wn_none rfl) rfl (rd_field rfl rfl fa137_1 _ rfl) ?_
    refine GL_rd (wn_none rfl) rfl (rd_load rfl rfl Try.underlying135 rfl ((cell_of_cells (hp.get 1 rfl) _).trans rfl)) ?_
    refine GL_rd (v := .string _) (wn_none rfl) rfl (rd_move rfl rfl) ?_
    refine GL_delA (i := 3) (wn_none rfl) rfl rfl rfl rfl rfl Try.underlying135 Try.underlying9 hp rfl ?_
    intro w hp
    refine GL_nil ?_
    refine GW_seq ?_
    refine GW_region ?_
    refine GL_rd (v := .int _ _) (wn_none rfl) rfl (rd_assign rfl rfl) ?_
    refine GL_nil ?_
    refine GW_ret ?_
    have hnp : ¬ alG PA who = none := fun e => by rw [hO.pno who e] at hi; simp at hi
    have hp := (((((hp.front 3 rfl).front 3 rfl).front 3 rfl).front 4 rfl).take 4)
    have hp := hp.revoked (who := who) hO.pok hnp
    have ho := hO.revoke who
    rw [← hl0] at ho hp
    exact ⟨_, res1 Try.results54 (rv_tmp (v := .int _ _) rfl rfl), .inr ⟨i, _, _, hi, he, hno, rfl, ho, none_del hO.pok hl0, ((hp.front 3 rfl).front 3 rfl).front 3 rfl⟩⟩
   ·(try simp only [decide_eq_true_eq, decide_eq_false_iff_not, Bool.not_eq_true', Bool.not_eq_false', Bool.not_eq_eq_eq_not, Bool.not_true, Bool.not_false, Int.not_lt, Int.not_le] at hb4)
    have hl0 : ¬ (cutS (ct who) i) = [] := fun e => hb4 (by rw [e]; rfl)
    refine GW_skip ?_
    refine GW_seq ?_
    refine GW_region ?_
    refine GL_rd (v := .pointer (some ⟨_, _, none⟩)) (wn_none rfl) rfl (rd_move rfl rfl) ?_
    refine GL_rd (wn_none rfl) rfl (rd_nilCheck rfl rfl) ?_
    refine GL_rd (wn_none rfl) rfl (rd_field rfl rfl fa137_1 _ rfl) ?_
    refine GL_rd (wn_none rfl) rfl (rd_load rfl rfl Try.underlying135 rfl ((cell_of_cells (hp.get 1 rfl) _).trans rfl)) ?_
    refine GL_rd (v := .string _) (wn_none rfl) rfl (rd_move rfl rfl) ?_
    refine GL_rd (v := .slice _ _ _) (wn_none rfl) rfl (rd_move rfl rfl) ?_
    refine GL_putA (i := 3) (wn_none rfl) rfl rfl rfl rfl rfl Try.underlying135 Try.underlying9 hp rfl ?_
    intro w hp
    refine GL_nil ?_
    refine GW_seq ?_
    refine GW_region ?_
    refine GL_rd (v := .int _ _) (wn_none rfl) rfl (rd_assign rfl rfl) ?_
    refine GL_nil ?_
    refine GW_ret ?_
    have hp := ((((((hp.front 3 rfl).front 3 rfl).front 3 rfl).front 4 rfl).front 4 rfl).take 5)
    have hp := Hp.granted (l := (cutS (ct who) i)) (who := who) hp hO.pok
    exact ⟨_, res1 Try.results54 (rv_tmp (v := .int _ _) rfl rfl), .inr ⟨i, _, _, hi, he, hno, rfl, hO.grant who _ _, none_put hl0, ((hp.front 3 rfl).front 3 rfl).front 3 rfl⟩⟩
end Go.Proofs.Ytpagpmioopaciaa
