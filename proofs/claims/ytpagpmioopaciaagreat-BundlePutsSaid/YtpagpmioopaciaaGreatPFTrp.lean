/- Walks of functions of the program. -/
import Derived.Test.YtpagpmioopaciaaGreatPFWord
import Derived.Test.YtpagpmioopaciaaGreatPThrD
set_option linter.unusedVariables false
set_option linter.unusedSimpArgs false
namespace Go.Proofs.YtpagpmioopaciaaGreat
open Go.Mo Go.RowKit
theorem trap_Throw (c : Int) (w0 : World) : Thr Tryz.prog 70 #[.int .i64 c] w0 (fun v w' => False) (fun ch w' => ch = faultE 130 c ∧ Hp w0 [] w' []) := by
 refine thr_of (l := [.int .i64 c]) Tryz.func70 (by kernel_rfl) rfl Tryz.ntmps70 rfl rfl (by kernel_rfl) ?_
 have hp := Hp.refl w0 []
 refine GW_region ?_
 refine GL_rd (v := .int _ _) (wn_none rfl) rfl (rd_move rfl rfl) ?_
 refine GL_rd (wn_none rfl) rfl (rd_buildS (L := [.int .i64 c]) rfl tz130 pl130 (by kernel_rfl)) ?_
 refine GL_rd (v := .iface _ _) (wn_none rfl) rfl (rd_iface rfl rfl Tryz.underlying130 rfl) ?_
 refine GL_panic (wn_none rfl) rfl rfl ?_
 exact ⟨rfl, hp.mods⟩
theorem trap_caught0 (w0 : World) : Does Tryz.prog 96 #[.nilIface] w0 fun v w' => v = .int .i64 0 ∧ Hp w0 [] w' [] := by
 refine does_of (l := [.nilIface]) Tryz.func96 (by kernel_rfl) rfl Tryz.ntmps96 rfl rfl (by kernel_rfl) ?_
 have hp := Hp.refl w0 []
 refine GW_seq ?_
 refine GW_region ?_
 refine GL_rd (v := .int _ _) (wn_none rfl) rfl (rd_assign rfl rfl) ?_
 refine GL_nil ?_
 refine GW_seq ?_
 refine GW_seq ?_
 refine GW_region ?_
 refine GL_rd (v := .nilIface) (wn_none rfl) rfl (rd_move rfl rfl) ?_
 refine GL_nil ?_
 refine GW_block ?_
 refine GW_seq ?_
 refine GW_region ?_
 refine GL_rd (wn_none rfl) rfl (rd_bin rfl rfl rfl (bo_nilnilE Tryz.underlying20 rfl rfl)) ?_
 refine GL_nil ?_
 refine GW_true rfl ?_
 refine GW_seq ?_
 refine GW_region ?_
 refine GL_rd (v := .nilIface) (wn_none rfl) rfl (rd_assign rfl rfl) ?_
 refine GL_nil ?_
 refine GW_seq ?_
 refine GW_region ?_
 refine GL_rd (v := .int _ _) (wn_none rfl) rfl (rd_assign rfl rfl) ?_
 refine GL_nil ?_
 refine GW_ret ?_
 exact ⟨_, res1 Tryz.results96 (rv_tmp (v := .int _ _) rfl rfl), rfl, hp.mods⟩
theorem trap_caught1 (c : Int) (w0 : World) : Does Tryz.prog 96 #[.iface 130 (.agg ⟨[.int .i64 c]⟩)] w0 fun v w' => v = .int .i64 c ∧ Hp w0 [] w' [] := by
 refine does_of (l := [.iface 130 (.agg ⟨[.int .i64 c]⟩)]) Tryz.func96 (by kernel_rfl) rfl Tryz.ntmps96 rfl rfl (by kernel_rfl) ?_
 have hp := Hp.refl w0 []
 refine GW_seq ?_
 refine GW_region ?_
 refine GL_rd (v := .int _ _) (wn_none rfl) rfl (rd_assign rfl rfl) ?_
 refine GL_nil ?_
 refine GW_seq ?_
 refine GW_seq ?_
 refine GW_region ?_
 refine GL_rd (v := .iface 130 (.agg ⟨[.int .i64 c]⟩)) (wn_none rfl) rfl (rd_move rfl rfl) ?_
 refine GL_nil ?_
 refine GW_block ?_
 refine GW_seq ?_
 refine GW_region ?_
 refine GL_rd (wn_none rfl) rfl (rd_bin rfl rfl rfl (bo_inilE Tryz.underlying20 rfl)) ?_
 refine GL_nil ?_
 refine GW_false rfl ?_
 refine GW_seq ?_
 refine GW_region ?_
 refine GL_rd (wn_none rfl) rfl (rd_assertC rfl rfl Tryz.underlying130 rfl) ?_
 refine GL_rd (v := .bool _) (wn_none rfl) rfl (rd_extract rfl rfl rfl) ?_
 refine GL_rd (v := .agg ⟨_⟩) (wn_none rfl) rfl (rd_extract rfl rfl rfl) ?_
 refine GL_nil ?_
 refine GW_true rfl ?_
 refine GW_seq ?_
 refine GW_region ?_
 refine GL_alloc (wn_none rfl) rfl rfl tz130 rfl hp ?_
 intro g w hp
 refine GL_store (i := 0) (wn_none rfl) rfl rfl rfl rfl ts130 rfl rfl (by intro u hu; rw [List.mem_singleton.1 hu]; rfl) hp rfl (Nat.le_of_ble_eq_true rfl) (splice_all _ _ rfl) ?_
 intro w hp
 refine GL_nil ?_
 refine GW_seq ?_
 refine GW_region ?_
 refine GL_rd (wn_none rfl) rfl (rd_field rfl rfl fa130_0 _ rfl) ?_
 refine GL_rd (wn_none rfl) rfl (rd_load rfl rfl Tryz.underlying31 rfl ((cell_of_cells (hp.get 0 rfl) _).trans rfl)) ?_
 refine GL_rd (v := .int _ _) (wn_none rfl) rfl (rd_assign rfl rfl) ?_
 refine GL_nil ?_
 refine GW_ret ?_
 exact ⟨_, res1 Tryz.results96 (rv_tmp (v := .int _ _) rfl rfl), rfl, hp.mods⟩
theorem trap_C1 (g : Nat) (c0 c : Int) (x : Value) (u u' : FrameMode) (w0 w : World) (S : List Nat) (H : List Res) (hp : Hp w0 S w (cells g 31 [.int .i64 c0] :: H)) (hcv : ∀ c₀ cs, Frame.mode c₀ = u → recoverV (c₀ :: cs) = (x, { c₀ with mode := u' } :: cs)) (hx : ∀ w1, Does Tryz.prog 96 #[x] w1 fun v w2 => v = .int .i64 c ∧ Hp w1 [] w2 []) : CallsDIn (FW none) 0 Tryz.prog 95 #[.pointer (some ⟨g, 0, none⟩)] u w fun e u'' w' => u'' = u' ∧ (∃ v, e = .returned v) ∧ Hp w0 S w' (cells g 31 [.int .i64 c] :: H) := by
 refine callsD_recover (l := [.pointer (some ⟨g, 0, none⟩)]) (R := fun w' => Hp w0 S w' (cells g 31 [.int .i64 c] :: H)) Tryz.func95 rfl Tryz.ntmps95 rfl rfl rfl rfl (fun ρ => rfl) rfl hcv ?_
 refine GL_call (wn_none rfl) rfl rfl (hx _) rfl ?_
 rintro _ w ⟨rfl, hk⟩
 have hp := hp.comp hk
 refine GL_store (i := 0) (wn_none rfl) rfl rfl rfl rfl ts31 rfl rfl (by intro u hu; rw [List.mem_singleton.1 hu]; rfl) hp rfl (Nat.le_of_ble_eq_true rfl) (splice_all _ _ rfl) ?_
 intro w hp
 exact GL_nil ⟨⟨_, res0 Tryz.results95⟩, hp⟩
theorem trap_Catch {β γ : Type} (kf : Nat) (caps : Array Value) (CA : β → Prop) (A : β → List Res) (CX : Int → γ → Prop) (X : Int → γ → List Res) (r : Res) (w0 : World) (hr : Hp w0 r.foot w0 [r]) (hf : ∀ w1, Mod r.foot w0 w1 → r.at_ w1 → Thr Tryz.prog kf caps w1 (fun _ w2 => ∃ b, CA b ∧ Hp w1 r.foot w2 (A b)) (fun ch w2 => ∃ c b, ch = faultE 130 c ∧ CX c b ∧ Hp w1 r.foot w2 (X c b))) : Does Tryz.prog 67 #[.func (.func kf) #[] caps] w0 fun v w' => (v = .int .i64 0 ∧ ∃ b, CA b ∧ Hp w0 r.foot w' (A b)) ∨ ∃ c b, v = .int .i64 c ∧ CX c b ∧ Hp w0 r.foot w' (X c b) := by
 refine does_defers (l := [.func (.func kf) #[] caps]) Tryz.func67 (by kernel_rfl) rfl Tryz.ntmps67 rfl rfl ?_
 have hp := hr
 refine GV_seq ?_
 refine GV_of (by kernel_rfl) ?_
 refine GW_region ?_
 refine GL_alloc (wn_none rfl) rfl rfl tz31 rfl hp ?_
 intro g w hp
 refine GL_nil ?_
 refine GV_seq ?_
 refine GV_of (by kernel_rfl) ?_
 refine GW_seq ?_
 refine GW_region ?_
 refine GL_rd (v := .func (.func kf) #[] caps) (wn_none rfl) rfl (rd_move rfl rfl) ?_
 refine GL_rd (wn_none rfl) rfl (rd_bin rfl rfl rfl (bo_fnilT Tryz.underlying1)) ?_
 refine GL_nil ?_
 refine GW_false rfl ?_
 refine GW_skip ?_
 refine GV_seq ?_
 refine GV_defer2 (dd := { target := .fn (.func 95) #[.pointer (some ⟨g, 0, none⟩)], args := #[] }) rfl rfl rfl rfl (rd_closure (caps := #[.pointer (some ⟨g, 0, none⟩)]) rfl rfl) (run_defer rfl rfl) ?_
 refine GV_of (by kernel_rfl) ?_
 refine GW_seq ?_
 refine GW_region ?_
 refine GL_rd (v := .func (.func kf) #[] caps) (wn_none rfl) rfl (rd_move rfl rfl) ?_
 refine GL_callVX (wn_none rfl) rfl rfl rfl (hf _ hp.mod (hp.get 1 rfl)) rfl (fun ch w' q => by obtain ⟨c, b, rfl, hb, hk⟩ := q; have hp := hp.turnBack hk; exact leaves_one (u' := .panicking [{ v := .iface 130 (.agg ⟨[.int .i64 c]⟩), recovered := true }]) (by simp) (run_invoke ⟨_, Tryz.func95, by kernel_rfl, rfl⟩) rfl (trap_C1 g 0 c _ _ _ _ _ _ _ hp (fun c₀ cs h => recoverV_pan _ c₀ cs h) (fun w1 => trap_caught1 c w1)) (fun w' hp => ⟨_, res1 Tryz.results67 (rv_cell1 rfl rfl Tryz.underlying31 rfl (hp.get 0 rfl)), .inr ⟨c, b, rfl, hb, hp.drop 1⟩⟩)) ?_
 rintro v w ⟨b, hb, hk⟩
 have hp := hp.turnBack hk
 refine GL_nil ?_
 refine GW_seq ?_
 refine GW_region ?_
 refine GL_store (i := 0) (wn_none rfl) rfl rfl rfl rfl ts31 rfl rfl (one1 rfl) hp rfl (by first | exact Nat.le_of_ble_eq_true rfl | simp [bys_length, *]) rfl ?_
 intro w hp
 refine GL_nil ?_
 refine GW_ret ?_
 exact leaves_one (u' := .returning) (by simp) (run_invoke ⟨_, Tryz.func95, by kernel_rfl, rfl⟩) rfl (trap_C1 g 0 0 _ _ _ _ _ _ _ hp (fun c₀ cs h => recoverV_ret c₀ cs h) (fun w1 => trap_caught0 w1)) (fun w' hp => ⟨_, res1 Tryz.results67 (rv_cell1 rfl rfl Tryz.underlying31 rfl (hp.get 0 rfl)), .inl ⟨rfl, b, hb, hp.drop 1⟩⟩)
end Go.Proofs.YtpagpmioopaciaaGreat
