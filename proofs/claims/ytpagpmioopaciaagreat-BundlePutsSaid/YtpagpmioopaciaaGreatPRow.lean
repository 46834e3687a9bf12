/- Walks of functions of the program. -/
import Derived.Test.YtpagpmioopaciaaGreatPFPuB
import Derived.Test.YtpagpmioopaciaaGreatPFBuX
import Derived.Test.YtpagpmioopaciaaGreatPActs
import Derived.WalkKit
import Derived.ProofKit
import Derived.OpenShut
import Derived.ShutString
import Derived.ChangeOld
import Derived.Below
import Derived.SizedLaws
import Derived.ChangeSlices
import Derived.Deep.Slices
set_option linter.unusedVariables false
set_option linter.unusedSimpArgs false
namespace Go.Proofs.YtpagpmioopaciaaGreat
open Go.Mo Go.RowKit
set_option maxHeartbeats 1000000 in
theorem law_BundlePuts (b : Bu) (tv av : Value) (w0 : World) (hB : BuAt b tv av w0) : Does Tryz.prog 3 #[.agg ⟨buC b tv av⟩] w0 fun v w' => v = .bool true ∧ Hp w0 [] w' [] := by
 obtain ⟨At, ct, rfl⟩ := sl_shape hB.tx
 obtain ⟨Aa, ca, rfl⟩ := sl_shape hB.au
 have htx := hB.tx
 have hau := hB.au
 refine does_of (l := [.agg ⟨(buC b (.slice At b.tx.length ct) (.slice Aa b.au.length ca))⟩]) Tryz.func3 (by kernel_rfl) rfl Tryz.ntmps3 rfl rfl (by kernel_rfl) ?_
 have hp := Hp.refl w0 []
 refine GW_seq ?_
 refine GW_region ?_
 refine GL_box (wn_none rfl) rfl rfl rfl rfl hp ?_
 intro g w hp
 refine GL_rd (v := .bool _) (wn_none rfl) rfl (rd_assign rfl rfl) ?_
 refine GL_nil ?_
 refine GW_seq ?_
 refine GW_seq ?_
 refine GW_region ?_
 refine GL_rd (wn_none rfl) rfl (rd_loadC rfl rfl Tryz.underlying25 rfl ts25 (hp.get 0 rfl) (by first | (rw [bys_length]; first | exact a32_len _) | rfl | simp [bys_length, *])) ?_
 refine GL_call (wn_none rfl) rfl rfl (bu_light b _ _ _ (hB.keep hp.mod)) rfl ?_
 rintro _ w ⟨rfl, hk⟩
 have hp := hp.comp hk
 refine GL_rd (wn_none rfl) rfl (rd_not rfl rfl) ?_
 refine GL_nil ?_
 refine GW_cond rfl (fun hb => ?_) (fun hb => ?_)
 ·(try simp only [decide_eq_true_eq, decide_eq_false_iff_not, Bool.not_eq_true', Bool.not_eq_false', Bool.not_eq_eq_eq_not, Bool.not_true, Bool.not_false, Int.not_lt, Int.not_le] at hb)
  refine GW_seq ?_
  refine GW_region ?_
  refine GL_call (wn_none rfl) rfl rfl (law_bworks _) rfl ?_
  rintro _ w ⟨rfl, hk⟩
  have hp := hp.comp hk
  refine GL_rd (v := .bool _) (wn_none rfl) rfl (rd_assign rfl rfl) ?_
  refine GL_nil ?_
  refine GW_ret ?_
  exact ⟨_, res1 Tryz.results3 (rv_tmp (v := .bool _) rfl rfl), rfl, hp.mods⟩
 ·(try simp only [decide_eq_true_eq, decide_eq_false_iff_not, Bool.not_eq_true', Bool.not_eq_false', Bool.not_eq_eq_eq_not, Bool.not_true, Bool.not_false, Int.not_lt, Int.not_le] at hb)
  have hlit : litBu b = true := by simpa using hb
  have hsm := litBu_sm hlit
  refine GW_skip ?_
  refine GW_seq ?_
  refine GW_region ?_
  refine GL_rd (wn_none rfl) rfl (rd_loadC rfl rfl Tryz.underlying25 rfl ts25 (hp.get 0 rfl) (by first | (rw [bys_length]; first | exact a32_len _) | rfl | simp [bys_length, *])) ?_
  refine GL_call (wn_none rfl) rfl rfl (bu_own b _ _ _ (hB.keep hp.mod)) rfl ?_
  rintro _ w ⟨rfl, hk⟩
  have hp := hp.comp hk
  refine GL_alloc (wn_none rfl) rfl rfl tz28 rfl hp ?_
  intro g2 w hp
  refine GL_store (i := 0) (wn_none rfl) rfl rfl rfl rfl ts28 rfl rfl (oneC rfl (oneC rfl (oneC rfl (oneC rfl (oneC rfl one0))))) hp rfl (by first | exact Nat.le_of_ble_eq_true rfl | simp [bys_length, *]) rfl ?_
  intro w hp
  refine GL_nil ?_
  refine GW_seq ?_
  refine GW_region ?_
  refine GL_rd (wn_none rfl) rfl (rd_loadC rfl rfl Tryz.underlying28 rfl ts28 (hp.get 0 rfl) (by first | (rw [bys_length]; first | exact a32_len _) | rfl | simp [bys_length, *])) ?_
  refine GL_call (wn_none rfl) rfl rfl (bu_Seal b _ _ _ (hB.keep hp.mod) hsm) rfl ?_
  rintro _ w ⟨rfl, hk⟩
  have hp := hp.comp hk
  refine GL_rd (v := .tuple _) (wn_none rfl) rfl (rd_move rfl rfl) ?_
  refine GL_rd (v := .agg ⟨_⟩) (wn_none rfl) rfl (rd_extract rfl rfl rfl) ?_
  refine GL_rd (v := .int _ _) (wn_none rfl) rfl (rd_extract rfl rfl rfl) ?_
  refine GL_alloc (wn_none rfl) rfl rfl tz30 rfl hp ?_
  intro g3 w hp
  refine GL_store (i := 0) (wn_none rfl) rfl rfl rfl rfl ts30 rfl (by rw [bys_length]; exact (buSeal b).2) (bys_one _) hp rfl (Nat.le_of_ble_eq_true rfl) (splice_all _ _ (by rw [bys_length]; exact (buSeal b).2.trans rfl)) ?_
  intro w hp
  refine GL_rd (v := .int _ _) (wn_none rfl) rfl (rd_assign rfl rfl) ?_
  refine GL_nil ?_
  refine GW_seq ?_
  refine GW_region ?_
  refine GL_rd (wn_none rfl) rfl (rd_loadC rfl rfl Tryz.underlying25 rfl ts25 (hp.get 2 rfl) (by first | (rw [bys_length]; first | exact a32_len _) | rfl | simp [bys_length, *])) ?_
  refine GL_call (wn_none rfl) rfl rfl (ref_buSeal b _ _ _ (hB.keep hp.mod) hsm) rfl ?_
  rintro _ w ⟨rfl, hk⟩
  have hp := hp.comp hk
  refine GL_rd (v := .tuple _) (wn_none rfl) rfl (rd_move rfl rfl) ?_
  refine GL_rd (v := .agg ⟨_⟩) (wn_none rfl) rfl (rd_extract rfl rfl rfl) ?_
  refine GL_rd (v := .int _ _) (wn_none rfl) rfl (rd_extract rfl rfl rfl) ?_
  refine GL_alloc (wn_none rfl) rfl rfl tz30 rfl hp ?_
  intro g4 w hp
  refine GL_store (i := 0) (wn_none rfl) rfl rfl rfl rfl ts30 rfl (by rw [bys_length]; exact (buSeal b).2) (bys_one _) hp rfl (Nat.le_of_ble_eq_true rfl) (splice_all _ _ (by rw [bys_length]; exact (buSeal b).2.trans rfl)) ?_
  intro w hp
  refine GL_rd (v := .int _ _) (wn_none rfl) rfl (rd_assign rfl rfl) ?_
  refine GL_nil ?_
  refine GW_seq ?_
  refine GW_region ?_
  refine GL_rd (wn_none rfl) rfl (rd_loadC rfl rfl Tryz.underlying28 rfl ts28 (hp.get 2 rfl) (by first | (rw [bys_length]; first | exact a32_len _) | rfl | simp [bys_length, *])) ?_
  refine GL_call (wn_none rfl) rfl rfl (bu_Put b _ _ _ (hB.keep hp.mod) hsm) rfl ?_
  rintro _ w ⟨pv, rfl, hk⟩
  have hp := hp.comp hk
  refine GL_rd (v := .tuple _) (wn_none rfl) rfl (rd_move rfl rfl) ?_
  refine GL_rd (v := pv) (wn_none rfl) rfl (rd_extract rfl rfl rfl) ?_
  refine GL_rd (v := .int _ _) (wn_none rfl) rfl (rd_extract rfl rfl rfl) ?_
  refine GL_rd (v := pv) (wn_none rfl) rfl (rd_assign rfl rfl) ?_
  refine GL_rd (v := .int _ _) (wn_none rfl) rfl (rd_assign rfl rfl) ?_
  refine GL_nil ?_
  refine GW_seq ?_
  refine GW_region ?_
  refine GL_rd (wn_none rfl) rfl (rd_loadC rfl rfl Tryz.underlying25 rfl ts25 (hp.get 4 rfl) (by first | (rw [bys_length]; first | exact a32_len _) | rfl | simp [bys_length, *])) ?_
  refine GL_call (wn_none rfl) rfl rfl (ref_buPut b _ _ _ (hB.keep hp.mod) hsm) rfl ?_
  rintro _ w ⟨pw, rfl, hk⟩
  have hp := hp.comp hk
  refine GL_rd (v := .tuple _) (wn_none rfl) rfl (rd_move rfl rfl) ?_
  refine GL_rd (v := pw) (wn_none rfl) rfl (rd_extract rfl rfl rfl) ?_
  refine GL_rd (v := .int _ _) (wn_none rfl) rfl (rd_extract rfl rfl rfl) ?_
  refine GL_rd (v := pw) (wn_none rfl) rfl (rd_assign rfl rfl) ?_
  refine GL_rd (v := .int _ _) (wn_none rfl) rfl (rd_assign rfl rfl) ?_
  refine GL_nil ?_
  refine GW_seq ?_
  refine GW_drawnK 36 (.one 0 true (.one 2 true (.one 1 false (.one 3 false (.one 4 true (.one 5 true (.one 6 true (.one 8 true (.one 7 false (.one 9 false (.one 10 true (.one 11 true (.one 12 true (.one 13 true (.one 14 true (.one 15 true (.one 16 true (.one 17 true (.one 18 true (.one 19 true (.one 20 true (.one 21 true (.one 22 true (.one 23 true (.one 24 true (.one 25 false (.one 26 true (.one 27 true (.one 28 true (.one 29 true (.one 30 true (.one 31 true (.one 32 true (.one 33 false (.one 34 true (.one 35 true .nil)))))))))))))))))))))))))))))))))))) mixed (by kernel_rfl) hp (fun _ h => h) fun w hp => ?_
  have hpS := hp
  refine GO_rd rfl rfl (wn_none rfl) rfl hpS (fun w hp => (rd_loadC rfl rfl Tryz.underlying28 rfl ts28 (hp.get 4 rfl) (by first | (rw [bys_length]; first | exact a32_len _) | rfl | simp [bys_length, *]))) ?_
  refine GO_rd rfl rfl (wn_none rfl) rfl hpS (fun w hp => (rd_loadC rfl rfl Tryz.underlying25 rfl ts25 (hp.get 5 rfl) (by first | (rw [bys_length]; first | exact a32_len _) | rfl | simp [bys_length, *]))) ?_
  refine GO_of_GL rfl ?_
  refine GL_call (wn_none rfl) rfl rfl (bu_Check b _ _ _ (hB.keep hp.mod) hsm) rfl ?_
  rintro _ w ⟨rfl, hk⟩
  have hp := hp.comp hk
  have hpS2 := hp
  refine GL_nil ⟨fun _ => hpS2, ?_⟩
  refine GO_of_GL rfl ?_
  refine GL_call (wn_none rfl) rfl rfl (ref_buCheck b _ _ _ (hB.keep hp.mod) hsm) rfl ?_
  rintro _ w ⟨rfl, hk⟩
  have hp := hp.comp hk
  have hpS3 := hp
  refine GL_nil ⟨fun _ => hpS3, ?_⟩
  refine GO_rd rfl rfl (wn_none rfl) rfl hpS3 (fun w hp => (rd_bin rfl rfl rfl (bo_eqT rfl))) ?_
  refine GO_rdT (v := .bool _) rfl (wn_none rfl) rfl (fun w => (rd_move rfl rfl)) ?_
  refine GO_rd rfl rfl (wn_on rfl rfl rfl rfl) rfl hpS3 (fun w hp => (rd_loadC rfl rfl Tryz.underlying28 rfl ts28 (hp.get 4 rfl) (by first | (rw [bys_length]; first | exact a32_len _) | rfl | simp [bys_length, *]))) ?_
  refine GO_rd rfl rfl (wn_on rfl rfl rfl rfl) rfl hpS3 (fun w hp => (rd_loadC rfl rfl Tryz.underlying25 rfl ts25 (hp.get 5 rfl) (by first | (rw [bys_length]; first | exact a32_len _) | rfl | simp [bys_length, *]))) ?_
  refine GO_of_GL rfl ?_
  refine GL_call (wn_on rfl rfl rfl rfl) rfl rfl (bu_Address b _ _ _ (hB.keep hp.mod) hsm) rfl ?_
  rintro _ w ⟨rfl, hk⟩
  have hp := hp.comp hk
  have hpS4 := hp
  refine GL_nil ⟨fun _ => hpS4, ?_⟩
  refine GO_of_GL rfl ?_
  refine GL_call (wn_on rfl rfl rfl rfl) rfl rfl (ref_buAddress b _ _ _ (hB.keep hp.mod) hsm) rfl ?_
  rintro _ w ⟨rfl, hk⟩
  have hp := hp.comp hk
  have hpS5 := hp
  refine GL_nil ⟨fun _ => hpS5, ?_⟩
  refine GO_rd rfl rfl (wn_on rfl rfl rfl rfl) rfl hpS5 (fun w hp => (rd_bin rfl rfl rfl (bo_boolE (bo_arrB Tryz.underlying30 Tryz.underlying5 ts5 (by kernel_rfl) (buAdr b).2 (buAdr b).2).1 (decide_eq_true rfl)))) ?_
  refine GO_rdT (v := .bool _) rfl (wn_none rfl) rfl (fun w => (rd_pickT rfl rfl rfl)) ?_
  refine GO_rdT (v := .bool _) rfl (wn_none rfl) rfl (fun w => (rd_move rfl rfl)) ?_
  refine GO_rd rfl rfl (wn_on rfl rfl rfl rfl) rfl hpS5 (fun w hp => (rd_loadC rfl rfl Tryz.underlying30 rfl ts30 (hp.get 3 rfl) (by rw [bys_length]; exact (buSeal b).2))) ?_
  refine GO_rd rfl rfl (wn_on rfl rfl rfl rfl) rfl hpS5 (fun w hp => (rd_loadC rfl rfl Tryz.underlying30 rfl ts30 (hp.get 2 rfl) (by rw [bys_length]; exact (buSeal b).2))) ?_
  refine GO_rd rfl rfl (wn_on rfl rfl rfl rfl) rfl hpS5 (fun w hp => (rd_bin rfl rfl rfl (bo_boolE (bo_arrB Tryz.underlying30 Tryz.underlying5 ts5 (by kernel_rfl) (buSeal b).2 (buSeal b).2).1 (decide_eq_true rfl)))) ?_
  refine GO_rdT (v := .bool _) rfl (wn_none rfl) rfl (fun w => (rd_pickT rfl rfl rfl)) ?_
  refine GO_rdT (v := .bool _) rfl (wn_none rfl) rfl (fun w => (rd_move rfl rfl)) ?_
  refine GO_rdT (v := .int _ _) rfl (wn_on rfl rfl rfl rfl) rfl (fun w => (rd_move rfl rfl)) ?_
  refine GO_rdT (v := .int _ _) rfl (wn_on rfl rfl rfl rfl) rfl (fun w => (rd_move rfl rfl)) ?_
  refine GO_rd rfl rfl (wn_on rfl rfl rfl rfl) rfl hpS5 (fun w hp => (rd_bin rfl rfl rfl (bo_eqT rfl))) ?_
  refine GO_rdT (v := .bool _) rfl (wn_none rfl) rfl (fun w => (rd_pickT rfl rfl rfl)) ?_
  refine GO_rdT (v := .bool _) rfl (wn_none rfl) rfl (fun w => (rd_move rfl rfl)) ?_
  refine GO_rdT (v := pv) rfl (wn_on rfl rfl rfl rfl) rfl (fun w => (rd_move rfl rfl)) ?_
  refine GO_rdT (v := pw) rfl (wn_on rfl rfl rfl rfl) rfl (fun w => (rd_move rfl rfl)) ?_
  refine GO_of_GL rfl ?_
  refine GL_call (wn_on rfl rfl rfl rfl) rfl rfl (ref_Same _ _ _ _ (buBytes b) (buBytes b) _ (Sl.row (hp.get 1 rfl)) (Sl.row (hp.get 0 rfl))) rfl ?_
  rintro _ w ⟨rfl, hk⟩
  have hp := hp.comp hk
  rw [decide_eq_true (rfl : buBytes b = buBytes b)]
  have hpS6 := hp
  refine GL_nil ⟨fun _ => hpS6, ?_⟩
  refine GO_rdT (v := .bool _) rfl (wn_none rfl) rfl (fun w => (rd_pickT rfl rfl rfl)) ?_
  refine GO_rdT (v := .bool _) rfl (wn_none rfl) rfl (fun w => (rd_move rfl rfl)) ?_
  refine GO_rdT (v := .int _ _) rfl (wn_on rfl rfl rfl rfl) rfl (fun w => (rd_move rfl rfl)) ?_
  refine GO_rdT (v := .int _ _) rfl (wn_on rfl rfl rfl rfl) rfl (fun w => (rd_move rfl rfl)) ?_
  refine GO_rd rfl rfl (wn_on rfl rfl rfl rfl) rfl hpS6 (fun w hp => (rd_bin rfl rfl rfl (bo_eqT rfl))) ?_
  refine GO_rdT (v := .bool _) rfl (wn_none rfl) rfl (fun w => (rd_pickT rfl rfl rfl)) ?_
  refine GO_rdT (v := .bool _) rfl (wn_none rfl) rfl (fun w => (rd_move rfl rfl)) ?_
  refine GO_of_GL rfl ?_
  refine GL_call (wn_on rfl rfl rfl rfl) rfl rfl (law_bworks _) rfl ?_
  rintro _ w ⟨rfl, hk⟩
  have hp := hp.comp hk
  have hpS7 := hp
  refine GL_nil ⟨fun _ => hpS7, ?_⟩
  refine GO_rdT (v := .bool _) rfl (wn_none rfl) rfl (fun w => (rd_pickT rfl rfl rfl)) ?_
  refine GO_rdT (v := .bool _) rfl (wn_none rfl) rfl (fun w => (rd_assign rfl rfl)) ?_
  refine GO_nil ?_
  refine GW_ret ?_
  exact ⟨_, res1 Tryz.results3 (rv_tmp (v := .bool _) rfl rfl), rfl, hp.mods⟩
end Go.Proofs.YtpagpmioopaciaaGreat
set_option linter.unusedVariables false
set_option linter.unusedSimpArgs false
namespace Go.Mo
open Go.ChangeShapes Go.WideShapes Go.ChangeAt Go.RowKit
theorem wf_u8 {n : Int} (h : (Lit.int .u8 n).wf = true) : 0 ≤ n ∧ n ≤ 255 := by
  simp only [Lit.wf, Bool.and_eq_true, decide_eq_true_eq] at h
  have e1 : IntKind.min .u8 = 0 := by decide
  have e2 : IntKind.max .u8 = 255 := by decide
  rwa [e1, e2] at h
theorem spot_of_cell {w : World} {a : Addr} {v : Value} (h : w.cell? (a.add 0) = some v) : a.spot = none := by
  have h0 : w.cell? a = some v := h
  unfold World.cell? at h0
  split at h0
  · split at h0
    · cases h0
    · rename_i hs; simpa using hs
  · cases h0
theorem add_of {a : Addr} (h : a.spot = none) (i : Nat) : a.add i = ⟨a.block, a.off + i, none⟩ := by
  unfold Addr.add
  split
  · rename_i h0; subst h0; cases a; simp_all
  · rfl
/-- The places that a reading names lie in the heap. -/
theorem trod_below {H : Type} {enc : TypeId × Value → H} {P : Program} {W : World} {t : TypeId} {v : Value} {d : DataW H} {ps : List MemPlace} (h : DataW.Trod enc P W 0 (fun _ => true) true t v d ps) : ∀ x ∈ ps, x.block < W.heap.size := by
  obtain ⟨m, hm⟩ := h
  exact DataW.trod_lt m _ _ _ hm
theorem calls_below {P : Program} {k : Nat} {args : Array Value} {w : World} {u : Value} (h : Does P k args w fun v w' => v = u ∧ Hp w [] w' []) : Calls P k args w fun e w' => e = .returned u ∧ Below w.heap.size w w' :=
  h.calls.mono fun e w' ⟨v, he, hv, hp⟩ => ⟨by rw [he, hv], hp.mod.toBelow⟩
/-- A slice that came in, of elements of several cells. -/
theorem row_of_flat {H : Type} {enc : TypeId × Value → H} {P : Program} {W : World} {t e : TypeId} {a : Option Addr} {len cap sz : Nat} {d : DataW H} {ps : List MemPlace} {α : Type} [Inhabited α] {f : α → List Value} {ok : α → Prop} (hsz : 0 < sz) (ht : P.underlying t = some (.slice e)) (hc : P.cellsOf e = sz)
    (hf : ∀ x, (f x).length = sz) (dec : ∀ n cs x, DataW.trod enc P W 0 (fun _ => true) true n e cs = some x → ∃ y : α, cs = f y ∧ ok y)
    (h : DataW.Trod enc P W 0 (fun _ => true) true t (.slice a len cap) d ps) : ∃ xs : List α, xs.length = len ∧ (∀ x ∈ xs, ok x) ∧ Sl W (.slice a len cap) sz len (xs.flatMap f) := by
  obtain ⟨fuel, hfu⟩ := h
  rcases Deep.open_slice ht hfu with ⟨hcs, _⟩ | ⟨x, l, c, m, n, D, Pl, hcs, _, hl, hm, hmm, _, hel⟩
  · simp [Value.cells] at hcs
    obtain ⟨rfl, rfl, rfl⟩ := hcs
    exact ⟨[], rfl, by simp, Sl.nil W sz⟩
  · simp [Value.cells] at hcs
    obtain ⟨rfl, rfl, rfl⟩ := hcs
    simp only [if_true] at hmm
    subst hmm
    have hx : ∀ i, ∃ y : α, i < len → (ok y ∧ ∀ j, j < sz → W.cell? ((x.add (i * sz)).add j) = (f y)[j]?) := fun i => by
      by_cases hi : i < len
      · obtain ⟨cs', h1, h2⟩ := hel i (by omega)
        obtain ⟨y, rfl, hok⟩ := dec _ _ _ h2
        obtain ⟨_, _, h3⟩ := World.cells?_some h1
        rw [hc] at h3
        exact ⟨y, fun _ => ⟨hok, h3⟩⟩
      · exact ⟨default, fun h => absurd h hi⟩
    obtain ⟨g, hg⟩ := Classical.axiomOfChoice hx
    refine ⟨(List.range len).map g, by simp, fun y hy => ?_, some x, _, rfl, hl, hm, by rw [flat_length hf]; simp, ?_⟩
    · obtain ⟨i, hi, rfl⟩ := List.mem_map.1 hy
      exact (hg i (List.mem_range.1 hi)).1
    · cases len with
      | zero => exact .inl (by simp)
      | succ len =>
        have hs : x.spot = none := by
          have h0 := (hg 0 (by omega)).2 0 hsz
          rw [Nat.zero_mul] at h0
          obtain ⟨u, hu⟩ : ∃ u, (f (g 0))[0]? = some u := ⟨_, List.getElem?_eq_getElem (by rw [hf]; exact hsz)⟩
          rw [hu] at h0
          exact spot_of_cell (a := x) h0
        refine .inr ⟨x.block, x.off, by cases x; simp_all, fun q u hq => ?_⟩
        have hql : q < (len + 1) * sz := by
          have := (List.getElem?_eq_some_iff.1 hq).1
          rwa [flat_length hf, List.length_map, List.length_range] at this
        have hi : q / sz < len + 1 := Nat.div_lt_of_lt_mul (by rwa [Nat.mul_comm] at hql)
        have hj : q % sz < sz := Nat.mod_lt _ hsz
        have hqe : q / sz * sz + q % sz = q := by rw [Nat.mul_comm]; exact Nat.div_add_mod q sz
        have e1 := flat_get hf ((List.range (len + 1)).map g) (q / sz) (q % sz) (g (q / sz)) hj (by simp [hi])
        rw [hqe, hq] at e1
        have e2 := (hg (q / sz) hi).2 (q % sz) hj
        have ha : x.add (q / sz * sz) = ⟨x.block, x.off + q / sz * sz, none⟩ := add_of hs _
        rw [ha, add_of rfl] at e2
        simp only [Nat.add_assoc, hqe] at e2
        rw [e2, ← e1]
/-- A field of a struct that came in. -/
theorem field_trod {H : Type} {enc : TypeId × Value → H} {P : Program} {W : World} {fuel : Nat} {t : TypeId} {cs : List Value} {x : DataW H × List MemPlace} {fs : Array Field} (ht : P.underlying t = some (.struct fs)) (h : DataW.trod enc P W 0 (fun _ => true) true fuel t cs = some x)
    (i : Nat) {fd : Field} {k : Nat} {ds : List Value} (hi : fs[i]? = some fd) (hc : P.cellsOf fd.type = k) (hd : (cs.drop fd.offset).take k = ds) : ∃ n y, DataW.trod enc P W 0 (fun _ => true) true n fd.type ds = some y := by
  obtain ⟨xs, n, _, _, _, hl, hf⟩ := DataW.trod_struct ht h
  have h1 := hf i fd hi
  rw [hc, hd] at h1
  have hlt : i < xs.length := by rw [hl]; exact (Array.getElem?_eq_some_iff.1 hi).1
  exact ⟨n, xs[i], by rw [h1, List.getElem?_eq_getElem hlt]⟩
theorem struct_len {H : Type} {enc : TypeId × Value → H} {P : Program} {W : World} {fuel : Nat} {t : TypeId} {cs : List Value} {x : DataW H × List MemPlace} {fs : Array Field} {k : Nat} (ht : P.underlying t = some (.struct fs)) (h : DataW.trod enc P W 0 (fun _ => true) true fuel t cs = some x) (hc : P.cellsOf t = k) : cs.length = k := by
  obtain ⟨xs, n, _, _, hl, _, _⟩ := DataW.trod_struct ht h
  rw [hl, hc]
def byteOf : Value → UInt8
  | .int _ n => UInt8.ofNat n.toNat
  | _ => 0
end Go.Mo
