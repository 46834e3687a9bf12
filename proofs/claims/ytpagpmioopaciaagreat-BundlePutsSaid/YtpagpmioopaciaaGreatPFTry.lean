/- Walks of functions of the program. -/
import Derived.Test.YtpagpmioopaciaaGreatPFEyG
set_option linter.unusedVariables false
set_option linter.unusedSimpArgs false
namespace Go.Proofs.YtpagpmioopaciaaGreat
open Go.Mo Go.RowKit
theorem trap_T1 (gf go ge : Nat) (sv : Value) (L : List UInt8) (wb w0 : World) (hr : Hp w0 [gf, go, ge] w0 [cells gf 75 [.func (.func 42) #[.pointer (some ⟨ge, 0, none⟩)] #[]], cells go 28 buZ, cells ge 73 [sv]]) (hm0 : Mod [] wb w0) (hg0 : wb.heap.size ≤ ge) (hS0 : Sl wb sv 1 L.length (bys L)) : Thr Tryz.prog 68 #[.pointer (some ⟨gf, 0, none⟩), .pointer (some ⟨go, 0, none⟩)] w0 (fun v w' => ∃ (B : Bu) (tv av : Value), decB L = some (bare B) ∧ BuSm B ∧ Hp w0 [gf, go, ge] w' (cells go 28 (buC B tv av) :: buRows 35 5 46 B tv av)) (fun ch w' => ∃ c : Int, (c = 3 ∨ c = 5) ∧ ch = faultE 130 c ∧ decB L = none ∧ Hp w0 [gf, go, ge] w' [cells go 28 buZ]) := by
 refine thr_of (l := [.pointer (some ⟨gf, 0, none⟩), .pointer (some ⟨go, 0, none⟩)]) Tryz.func68 (by kernel_rfl) rfl Tryz.ntmps68 rfl rfl (by kernel_rfl) ?_
 have hp := hr
 refine GW_region ?_
 refine GL_rd (wn_none rfl) rfl (rd_load rfl rfl Tryz.underlying75 rfl ((cell_of_cells (hp.get 0 rfl) _).trans rfl)) ?_
 refine GL_callFX (wn_none rfl) rfl rfl rfl (eye_get ge sv L wb _ hm0 hg0 (hp.get 2 rfl) hS0) rfl (fun ch w' q => by obtain ⟨c, hc, rfl, hD, hk⟩ := q; have hp := hp.turnAtMore 2 rfl hk; exact ⟨c, hc, rfl, hD, (hp.front 1 rfl).take 1⟩) ?_
 rintro _ w ⟨B, tv, av, rfl, hD, hBS, hk⟩
 have hp := hp.turnAtMore 2 rfl hk
 refine GL_store (i := 4) (wn_none rfl) rfl rfl rfl rfl ts28 rfl rfl (oneC rfl (oneC rfl (oneC rfl (oneC (row_one (hp.get 0 rfl)) (oneC (row_one (hp.get 2 rfl)) one0))))) hp rfl (by first | exact Nat.le_of_ble_eq_true rfl | simp [bys_length, *]) rfl ?_
 intro w hp
 refine GL_nil ?_
 have hp := (((((hp.front 2 rfl).front 2 rfl).front 2 rfl).front 4 rfl).take 4)
 exact ⟨_, res0 Tryz.results68 , B, tv, av, hD, hBS, hp⟩
theorem trap_Try (ge : Nat) (sv : Value) (L : List UInt8) (wb w0 : World) (hm0 : Mod [] wb w0) (hg0 : wb.heap.size ≤ ge) (ho0 : (cells ge 73 [sv]).at_ w0) (hS0 : Sl wb sv 1 L.length (bys L)) : Does Tryz.prog 41 #[.func (.func 42) #[.pointer (some ⟨ge, 0, none⟩)] #[]] w0 fun v w' => ∃ L5 c H, v = .tuple #[.agg ⟨L5⟩, .int .i64 c] ∧ TryR 35 5 46 (decB L) L5 c H ∧ c ≠ 15 ∧ Hp w0 [ge] w' H := by
 refine does_of (l := [.func (.func 42) #[.pointer (some ⟨ge, 0, none⟩)] #[]]) Tryz.func41 (by kernel_rfl) rfl Tryz.ntmps41 rfl rfl (by kernel_rfl) ?_
 have hp := Hp.one ho0
 refine GW_seq ?_
 refine GW_region ?_
 refine GL_box (wn_none rfl) rfl rfl rfl rfl hp ?_
 intro g w hp
 refine GL_alloc (wn_none rfl) rfl rfl tz28 rfl hp ?_
 intro g2 w hp
 refine GL_rd (v := .int _ _) (wn_none rfl) rfl (rd_assign rfl rfl) ?_
 refine GL_nil ?_
 refine GW_seq ?_
 refine GW_seq ?_
 refine GW_region ?_
 refine GL_rd (wn_none rfl) rfl (rd_load rfl rfl Tryz.underlying75 rfl ((cell_of_cells (hp.get 1 rfl) _).trans rfl)) ?_
 refine GL_rd (wn_none rfl) rfl (rd_bin rfl rfl rfl (bo_fnilT Tryz.underlying75)) ?_
 refine GL_nil ?_
 refine GW_false rfl ?_
 refine GW_skip ?_
 refine GW_seq ?_
 refine GW_region ?_
 refine GL_rd (wn_none rfl) rfl (rd_closure (caps := #[.pointer (some ⟨g, 0, none⟩), .pointer (some ⟨g2, 0, none⟩)]) rfl rfl) ?_
 have hp := ((((hp.front 2 rfl).front 1 rfl).front 2 rfl).take 3)
 have hp := Hp.pack (l := [cells g 75 [.func (.func 42) #[.pointer (some ⟨ge, 0, none⟩)] #[]], cells g2 28 buZ, cells ge 73 [sv]]) (H := []) hp
 refine GL_call (wn_none rfl) rfl rfl (trap_Catch (β := Bu × Value × Value) (γ := Unit) 68 #[.pointer (some ⟨g, 0, none⟩), .pointer (some ⟨g2, 0, none⟩)] (fun b => decB L = some (bare b.1) ∧ BuSm b.1) (fun b => cells g2 28 (buC b.1 b.2.1 b.2.2) :: buRows 35 5 46 b.1 b.2.1 b.2.2) (fun c _ => (c = 3 ∨ c = 5) ∧ decB L = none) (fun _ _ => [cells g2 28 buZ]) _ _ (Hp.oneR (hp.get 0 rfl)) (fun w1 h1 h2 => (trap_T1 g g2 ge sv L wb w1 (Hp.unpack (H := []) (Hp.oneR h2)) (mod_pack hm0 hg0 hp h1) hg0 hS0).mono (fun v w' q => by obtain ⟨B, tv, av, q1, q2, q3⟩ := q; exact ⟨(B, tv, av), ⟨q1, q2⟩, q3⟩) (fun ch w' q => by obtain ⟨c, q1, q2, q3, q4⟩ := q; exact ⟨c, (), q2, ⟨q1, q3⟩, q4⟩))) rfl ?_
 intro vq w hq
 skip
 refine GL_rd (v := vq) (wn_none rfl) rfl (rd_assign rfl rfl) ?_
 refine GL_nil ?_
 refine GW_seq ?_
 refine GW_seq ?_
 rcases hq with ⟨rfl, ⟨B, tv, av⟩, ⟨hD, hBS⟩, hk⟩ | ⟨c, _, rfl, ⟨hc, hD⟩, hk⟩
 ·skip
  have hp := hp.turn hk
  refine GW_region ?_
  refine GL_rd (v := .int _ _) (wn_none rfl) rfl (rd_move rfl rfl) ?_
  refine GL_rd (wn_none rfl) rfl (rd_bin rfl rfl rfl bo_neq) ?_
  refine GL_nil ?_
  refine GW_cond rfl (fun hb => ?_) (fun hb => ?_)
  ·(try simp only [decide_eq_true_eq, decide_eq_false_iff_not, Bool.not_eq_true', Bool.not_eq_false', Bool.not_eq_eq_eq_not, Bool.not_true, Bool.not_false, Int.not_lt, Int.not_le] at hb)
   exact absurd trivial hb
  ·(try simp only [decide_eq_true_eq, decide_eq_false_iff_not, Bool.not_eq_true', Bool.not_eq_false', Bool.not_eq_eq_eq_not, Bool.not_true, Bool.not_false, Int.not_lt, Int.not_le] at hb)
   refine GW_skip ?_
   refine GW_seq ?_
   refine GW_region ?_
   refine GL_rd (wn_none rfl) rfl (rd_loadC rfl rfl Tryz.underlying28 rfl ts28 (hp.get 0 rfl) (by first | (rw [bys_length]; first | exact a32_len _) | rfl | simp [bys_length, *])) ?_
   refine GL_store (i := 0) (wn_none rfl) rfl rfl rfl rfl ts28 rfl rfl (oneC rfl (oneC rfl (oneC rfl (oneC (row_one (hp.get 1 rfl)) (oneC (row_one (hp.get 3 rfl)) one0))))) hp rfl (by first | exact Nat.le_of_ble_eq_true rfl | simp [bys_length, *]) rfl ?_
   intro w hp
   refine GL_rd (v := .int _ _) (wn_none rfl) rfl (rd_assign rfl rfl) ?_
   refine GL_nil ?_
   refine GW_ret ?_
   refine ⟨_, res2 Tryz.results41 (rv_cell rfl rfl Tryz.underlying28 rfl ts28 rfl (hp.get 0 rfl)) (rv_tmp (v := .int _ _) rfl rfl), buC B tv av, 0, _, rfl, .inl ⟨rfl, B, tv, av, rfl, row_one (hp.get 1 rfl), row_one (hp.get 3 rfl), hD, hBS, rfl⟩, by decide, ?_⟩
   have hp := ((((hp.front 3 rfl).front 3 rfl).front 3 rfl).take 3)
   exact hp
 ·skip
  have hp := hp.turn hk
  refine GW_region ?_
  refine GL_rd (v := .int _ _) (wn_none rfl) rfl (rd_move rfl rfl) ?_
  refine GL_rd (wn_none rfl) rfl (rd_bin rfl rfl rfl bo_neq) ?_
  refine GL_nil ?_
  refine GW_cond rfl (fun hb2 => ?_) (fun hb2 => ?_)
  ·(try simp only [decide_eq_true_eq, decide_eq_false_iff_not, Bool.not_eq_true', Bool.not_eq_false', Bool.not_eq_eq_eq_not, Bool.not_true, Bool.not_false, Int.not_lt, Int.not_le] at hb2)
   refine GW_seq ?_
   refine GW_region ?_
   refine GL_alloc (wn_none rfl) rfl rfl tz28 rfl hp ?_
   intro g3 w hp
   refine GL_nil ?_
   refine GW_seq ?_
   refine GW_region ?_
   refine GL_rd (wn_none rfl) rfl (rd_loadC rfl rfl Tryz.underlying28 rfl ts28 (hp.get 0 rfl) (by first | (rw [bys_length]; first | exact a32_len _) | rfl | simp [bys_length, *])) ?_
   refine GL_rd (v := .int _ _) (wn_none rfl) rfl (rd_move rfl rfl) ?_
   refine GL_store (i := 1) (wn_none rfl) rfl rfl rfl rfl ts28 rfl rfl (oneC rfl (oneC rfl (oneC rfl (oneC rfl (oneC rfl one0))))) hp rfl (by first | exact Nat.le_of_ble_eq_true rfl | simp [bys_length, *]) rfl ?_
   intro w hp
   refine GL_rd (v := .int _ _) (wn_none rfl) rfl (rd_assign rfl rfl) ?_
   refine GL_nil ?_
   refine GW_ret ?_
   refine ⟨_, res2 Tryz.results41 (rv_cell rfl rfl Tryz.underlying28 rfl ts28 rfl (hp.get 1 rfl)) (rv_tmp (v := .int _ _) rfl rfl), buZ, c, [], rfl, .inr ⟨by omega, rfl, hD, rfl⟩, by omega, ?_⟩
   exact hp.mods
  ·(try simp only [decide_eq_true_eq, decide_eq_false_iff_not, Bool.not_eq_true', Bool.not_eq_false', Bool.not_eq_eq_eq_not, Bool.not_true, Bool.not_false, Int.not_lt, Int.not_le] at hb2)
   exact absurd hb2 (by omega)
end Go.Proofs.YtpagpmioopaciaaGreat
