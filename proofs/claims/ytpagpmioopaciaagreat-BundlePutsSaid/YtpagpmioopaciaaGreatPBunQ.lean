/- Bundles: the laws' own functions. -/
import Derived.Test.YtpagpmioopaciaaGreatPBunE
import Derived.Test.YtpagpmioopaciaaGreatPAudW
set_option linter.unusedVariables false
set_option linter.unusedSimpArgs false
namespace Go.Mo
open Go.RowKit
def litBu (b : Bu) : Bool := decide (b.cls.size ≤ 100 ∧ b.note.size ≤ 100 ∧ b.tx.length ≤ 8 ∧ lightI b.au ≤ 0 ∧ ∀ x ∈ b.tx, x.2.length ≤ 2100)
theorem getD_ex {α : Type} [Inhabited α] {l : List α} {x : α} (h : x ∈ l) : ∃ j, j < l.length ∧ l.getD j default = x := by
  obtain ⟨j, hj, e⟩ := List.getElem_of_mem h
  exact ⟨j, hj, by rw [List.getD_eq_getElem?_getD, List.getElem?_eq_getElem hj]; exact e⟩
theorem litBu_iff {b : Bu} : litBu b = true ↔ b.cls.size ≤ 100 ∧ b.note.size ≤ 100 ∧ b.tx.length ≤ 8 ∧ lightI b.au ≤ 0 ∧ ∀ x ∈ b.tx, x.2.length ≤ 2100 := by simp [litBu]
theorem litBu_no {b : Bu} (h : ¬ (b.cls.size ≤ 100 ∧ b.note.size ≤ 100 ∧ b.tx.length ≤ 8 ∧ lightI b.au ≤ 0 ∧ ∀ x ∈ b.tx, x.2.length ≤ 2100)) : litBu b = false := by
  rw [litBu, decide_eq_false h]
theorem litBu_sm {b : Bu} (h : litBu b = true) : BuSm b := by
  obtain ⟨h1, h2, h3, h4, h5⟩ := litBu_iff.1 h
  have h6 := light_of h4
  exact ⟨by omega, by omega, by omega, fun x hx => by have := h5 x hx; omega, by omega, light_small h4⟩
theorem bu_len {b : Bu} (h : buK b = 0) : 20 ≤ (buBytes b).length ∧ (buBytes b).length ≤ 32768 := by
  have h1 := buHd_ok.1 (buK_ok h).1
  have h2 := (buK_ok h).2.1
  have h3 := buS0_len (buK_ok h).1
  have h4 := buTs_le b.tx (k := 2048) fun x hx => (h2 x hx).2
  have h5 := buAs_le b.au
  have h6 := (buSeal b).2
  rw [buBytes_yes h]
  have e : (sealL (buSaid b)).length = (buS0 b).length + (buTs b.tx).length + 1 + (buAs b.au).length + 32 + 4 := by
    simp only [sealL, buSaid, List.length_append, h6, fourL, List.length_cons, List.length_nil]
  omega
theorem TryR.yes {SB U8 REC : Nat} {D : Option Bu} {L : List Value} {c : Int} {H : List Res} {b : Bu} (h : TryR SB U8 REC D L c H) (hD : D = some b) : c = 0 ∧ ∃ B tv av, L = buC B tv av ∧ tv.oneCell' = true ∧ av.oneCell' = true ∧ bare B = b ∧ BuSm B ∧ H = buRows SB U8 REC B tv av := by
  rcases h with ⟨h1, B, tv, av, h2, h3, h4, h5, h6, h7⟩ | ⟨_, _, h2, _⟩
  · rw [hD] at h5
    injection h5 with h5
    exact ⟨h1, B, tv, av, h2, h3, h4, h5.symm, h6, h7⟩
  · rw [hD] at h2; cases h2
theorem TryR.no {SB U8 REC : Nat} {D : Option Bu} {L : List Value} {c : Int} {H : List Res} (h : TryR SB U8 REC D L c H) (hc : ¬ c = 0) : L = buZ ∧ D = none ∧ H = [] := by
  rcases h with ⟨h1, _⟩ | ⟨_, h1, h2, h3⟩
  · exact absurd h1 hc
  · exact ⟨h1, h2, h3⟩
theorem bare_eq {a b : Bu} (h : bare a = bare b) : SameB a b := (bare_same a).symm.trans (h ▸ bare_same b)
def bWR : Rec := { recZ with kind := 3, actor := ⟨#[97, 110, 110]⟩ }
def bW (v : Value) : Bu := ⟨⟨#[116, 97, 120]⟩, 5, ⟨#[110]⟩, [(v, [97, 98, 99])], [bWR]⟩
def bW0 : Bu := bW (.bool false)
theorem bW_same (v : Value) : SameB (bW v) bW0 := ⟨rfl, rfl, rfl, rfl, rfl⟩
theorem bW_k0 : buK bW0 = 0 := by decide +kernel
theorem bW_sa0 : ¬ (buSeal bW0).1 = (buAdr bW0).1 := by decide +kernel
theorem bW_k (v : Value) : buK (bW v) = 0 := (bW_same v).k.trans bW_k0
theorem bW_sa (v : Value) : ¬ (buSeal (bW v)).1 = (buAdr (bW v)).1 := by rw [(bW_same v).seal_, (bW_same v).adr]; exact bW_sa0
theorem bW_sm (v : Value) : BuSm (bW v) := ⟨Nat.le_of_ble_eq_true rfl, Nat.le_of_ble_eq_true rfl, Nat.le_of_ble_eq_true rfl, fun x hx => by rw [List.mem_singleton.1 hx]; exact Nat.le_of_ble_eq_true rfl, Nat.le_of_ble_eq_true rfl, fun x hx => by rw [List.mem_singleton.1 hx]; decide⟩
theorem bu0_k : buK bu0 = 10 := by decide
theorem bW_ne0 (v : Value) : ¬ sameQ (bW v) bu0 := fun h => absurd (congrArg ByteArray.size h.1) (by show ¬ (3 : Nat) = 0; decide)
section ops
variable {P : Program} {T : TypeId} {x y : Operand} {w : World}
theorem bo_eqT {k : IntKind} {p q : Int} (h : p = q) : Bo P .eql T x y (.int k p) (.int k q) w (.bool true) := bo_boolE bo_eql (decide_eq_true h)
theorem bo_xor8 (a b : UInt8) : Bo P .xor T x y (.int .u8 (a.toNat : Int)) (.int .u8 (b.toNat : Int)) w (.int .u8 ((a ^^^ b).toNat : Int)) := by
  refine bo_int bo_xor ?_
  have ha := a.toNat_lt
  have hb := b.toNat_lt
  have e4 : IntKind.u8.bits = 8 := rfl
  rw [e4, BitVec.ofInt_natCast, BitVec.ofInt_natCast, BitVec.toNat_xor, BitVec.toNat_ofNat, BitVec.toNat_ofNat, Nat.mod_eq_of_lt ha, Nat.mod_eq_of_lt hb, UInt8.toNat_xor]
  have h8 : a.toNat ^^^ b.toNat < 2 ^ 8 := Nat.xor_lt_two_pow ha hb
  rw [IntKind.wrap_u8]
  omega
end ops
theorem flip_store {p : List UInt8} {j : Nat} (h : j / 8 < p.length) : splice (bys p) (0 + j / 8 * 1) [.int .u8 ((p.getD (j / 8) 0 ^^^ UInt8.ofNat (2 ^ (j % 8))).toNat : Int)] = bys (flipB p j) := by
  rw [Nat.zero_add, Nat.mul_one, flipB]
  have e : ∀ (l : List UInt8) (i : Nat) (u : UInt8), i < l.length → splice (bys l) i [.int .u8 (u.toNat : Int)] = bys (l.set i u) := fun l i u hi => by
    simp only [splice, bys, List.length_cons, List.length_nil, Nat.zero_add]
    rw [← List.map_take, ← List.map_drop, ← List.map_singleton (f := fun u : UInt8 => Value.int .u8 (u.toNat : Int)), ← List.map_append, ← List.map_append, List.set_eq_take_append_cons_drop, if_pos hi]
    simp
  exact e _ _ _ h
end Go.Mo
set_option linter.unusedVariables false
set_option linter.unusedSimpArgs false
namespace Go.Mo
open Go.RowKit
def spL (l : List UInt8) : List (List UInt8) := (List.range (cntC l.length)).map (chA l)
theorem adrs_sp (l : List UInt8) : adrsC l = (spL l).map chSum := by simp [adrsC, chI, spL, Function.comp_def]
theorem spL_len (l : List UInt8) : (spL l).length = cntC l.length := by simp [spL]
theorem spL_nil {l : List UInt8} (h : l.length = 0) : spL l = [] := by
  rw [spL, h]; rfl
theorem spL_small {l : List UInt8} (h0 : 0 < l.length) (h : l.length ≤ 256) : spL l = [l] := by
  have e : cntC l.length = 1 := by unfold cntC; omega
  rw [spL, e]
  show [chA l 0] = [l]
  rw [chA, Nat.mul_zero, List.drop_zero, List.take_of_length_le h]
theorem spL_big {l : List UInt8} (h : 256 < l.length) : spL l = l.take 256 :: spL (l.drop 256) := by
  have e : cntC l.length = cntC (l.drop 256).length + 1 := by rw [List.length_drop]; unfold cntC; omega
  rw [spL, spL, e, List.range_succ_eq_map, List.map_cons, List.map_map]
  congr 1
  apply List.map_congr_left
  intro i _
  show chA l (i + 1) = chA (l.drop 256) i
  rw [chA, chA, List.drop_drop, show 256 + 256 * i = 256 * (i + 1) by omega]
theorem lv_cut (f k : Nat) (L : List (List UInt8)) (h : k ≤ L.length) : (lvL f L).take k = lvL f (L.take k) ∧ (lvL f L).drop k = lvL (f + k) (L.drop k) := by
  have e := lvL_app f (L.take k) (L.drop k)
  rw [List.take_append_drop, List.length_take, Nat.min_eq_left h] at e
  have hl : (lvL f (L.take k)).length = k := by rw [lvL_len, List.length_take]; omega
  rw [e]
  exact ⟨List.take_left' hl, List.drop_left' hl⟩
theorem top_cut {f j : Nat} {L : List (List UInt8)} (h1 : 2 ^ j < L.length) (h2 : L.length ≤ 2 * 2 ^ j) : topL (lvL f L) = ndS (topL (lvL f (L.take (2 ^ j)))) (topL (lvL (f + 2 ^ j) (L.drop (2 ^ j)))) := by
  obtain ⟨e1, e2⟩ := lv_cut f (2 ^ j) L (by omega)
  rw [topL_split _ (lvL f L) j (Nat.le_refl _) (by rw [lvL_len]; exact h1) (by rw [lvL_len]; exact h2), e1, e2]
theorem top_single {f : Nat} {L : List (List UInt8)} (h : L.length = 1) : topL (lvL f L) = lvS f (L.getD 0 []) := by
  match L, h with
  | [x], _ => rw [lvL, lvL, topL_one (by simp)]; rfl
end Go.Mo
namespace Go.Mo
theorem fst_one {L : List (Value × List UInt8)} {w : World} (h : ∀ x ∈ L, Sl w x.1 1 x.2.length (bys x.2)) : ∀ u ∈ L.map Prod.fst, u.oneCell' = true := by
  intro u hu
  obtain ⟨x, hx, rfl⟩ := List.mem_map.1 hu
  obtain ⟨A, c, e⟩ := sl_shape (h x hx)
  rw [e]; rfl
theorem Sl.subP {w : World} {A : Option Addr} {n c : Nat} {L : List (Value × List UInt8)} (h : Sl w (.slice A n c) 1 n (L.map Prod.fst)) (lo hi : Nat) (h1 : lo ≤ hi) (h2 : hi ≤ n) :
    ∃ A2 c2, (if c = lo then A else A.map (·.add (lo * 1))) = A2 ∧ c - lo = c2 ∧ Sl w (.slice A2 (hi - lo) c2) 1 (hi - lo) (((L.drop lo).take (hi - lo)).map Prod.fst) := by
  have h3 := h.cut lo hi h1 h2
  refine ⟨_, _, rfl, rfl, ?_⟩
  simpa only [Nat.mul_one, List.map_drop, List.map_take] using h3
theorem Sl.lenP {w : World} {A : Option Addr} {n c m : Nat} {L : List (Value × List UInt8)} (h : Sl w (.slice A n c) 1 m (L.map Prod.fst)) : L.length = m := by
  have := h.len
  rwa [List.length_map, Nat.mul_one] at this
/-- A slice that may be appended to: owned, or full. -/
def apdR (U8 : Nat) (R : Res) (sv : Value) (l : List UInt8) : Prop := R = .row U8 1 sv l.length (bys l) ∨ ∃ g, 0 < l.length ∧ sv = .slice (some ⟨g, 0, none⟩) l.length l.length ∧ R = .blk g (.cells ⟨bys l⟩ U8 (l.length, l.length + 1))
theorem sp_at {L : List (Value × List UInt8)} {l : List UInt8} (h : L.map Prod.snd = spL l) {i : Nat} (hi : i < L.length) : adAt (adrsC l) i = chSum (L.getD i default).2 := by
  have h1 := getD_snd hi
  rw [h] at h1
  have h2 : (adrsC l)[i]? = some (chSum (L.getD i default).2) := by rw [adrs_sp, List.getElem?_map, h1]; rfl
  have h3 := adAt_some (l := adrsC l) (i := i) (by rw [List.getElem?_eq_some_iff] at h2; exact h2.1)
  rw [h2] at h3
  injection h3 with h3
  exact h3.symm
theorem mem_drop_take {α : Type} {L : List α} {lo k : Nat} {x : α} (h : x ∈ (L.drop lo).take k) : x ∈ L := List.mem_of_mem_drop (List.mem_of_mem_take h)
end Go.Mo
namespace Go.Mo
theorem spL_pos {l x : List UInt8} (h : x ∈ spL l) : 0 < x.length ∧ x.length ≤ 256 := by
  obtain ⟨q, hq, rfl⟩ := List.mem_map.1 h
  have h1 := chA_len l q
  have h2 := List.mem_range.1 hq
  refine ⟨?_, h1⟩
  rw [chA, List.length_take, List.length_drop]
  unfold cntC at h2
  omega
end Go.Mo
