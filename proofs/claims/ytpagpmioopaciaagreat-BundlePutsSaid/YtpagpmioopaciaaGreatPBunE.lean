/- Bundles read back: plain laws. -/
import Derived.Test.YtpagpmioopaciaaGreatPBunS
import Derived.Test.YtpagpmioopaciaaGreatPBunT
import Derived.Test.YtpagpmioopaciaaGreatPThrD
set_option linter.unusedVariables false
set_option linter.unusedSimpArgs false
namespace Go.Mo
open Go.RowKit
def tkL (n : Nat) (L : List UInt8) : Option (List UInt8 × List UInt8) := if n ≤ L.length then some (L.take n, L.drop n) else none
theorem tkL_yes {n : Nat} {L : List UInt8} (h : n ≤ L.length) : tkL n L = some (L.take n, L.drop n) := if_pos h
theorem tkL_no {n : Nat} {L : List UInt8} (h : L.length < n) : tkL n L = none := if_neg (by omega)
theorem tkL_app (n : Nat) (a r : List UInt8) (h : a.length = n) : tkL n (a ++ r) = some (a, r) := by
  subst h
  rw [tkL_yes (by rw [List.length_append]; omega), List.take_left', List.drop_left'] <;> rfl
theorem tkL_of {n : Nat} {L x r : List UInt8} (h : tkL n L = some (x, r)) : L = x ++ r ∧ x.length = n := by
  unfold tkL at h
  split at h
  · rename_i hn
    injection h with h
    injection h with h1 h2
    subst h1 h2
    exact ⟨(List.take_append_drop n L).symm, by rw [List.length_take]; omega⟩
  · cases h
def fdL (L : List UInt8) : Option (List UInt8 × List UInt8) := (tkL 2 L).bind fun x => tkL (getL x.1) x.2
theorem fdL_app {a : List UInt8} (r : List UInt8) (h : a.length ≤ 65535) : fdL (fldL a ++ r) = some (a, r) := by
  have e : getL (putL a.length 2) = a.length := by rw [getL_put, show (256 : Nat) ^ 2 = 65536 from rfl]; omega
  rw [fdL, fldL, List.append_assoc, tkL_app 2 _ _ (putL_length _ _), Option.bind_some, e, tkL_app _ _ _ rfl]
def rcL (L : List UInt8) : Option (Rec × List UInt8) := (tkL 155 L).bind fun x => if getE x.1 = 0 then some (getR x.1, x.2) else none
theorem rcL_app {q : Rec} (r : List UInt8) (h : checkR q = 0) : rcL (putB q ++ r) = some (q, r) := by
  have h1 := gr_back h []
  rw [List.append_nil] at h1
  have h2 := get_yes h1.1
  rw [rcL, putB_yes h, tkL_app 155 _ _ (bytesR_length h), Option.bind_some, if_pos h2.2, h2.1, h1.2]
def repL {α : Type} (f : List UInt8 → Option (α × List UInt8)) : Nat → List UInt8 → Option (List α × List UInt8)
  | 0, L => some ([], L)
  | k + 1, L => (repL f k L).bind fun x => (f x.2).bind fun y => some (x.1 ++ [y.1], y.2)
theorem repL_next {α : Type} {f : List UInt8 → Option (α × List UInt8)} {k : Nat} {L r r2 : List UInt8} {xs : List α} {y : α} (h : repL f k L = some (xs, r)) (hf : f r = some (y, r2)) : repL f (k + 1) L = some (xs ++ [y], r2) := by
  rw [repL, h, Option.bind_some, hf, Option.bind_some]
theorem repL_none {α : Type} {f : List UInt8 → Option (α × List UInt8)} {L : List UInt8} : ∀ {n k : Nat}, k ≤ n → repL f k L = none → repL f n L = none
  | 0, k, hk, h => by rw [show k = 0 by omega] at h; cases h
  | n + 1, k, hk, h => by
    rcases Nat.lt_or_ge n k with h1 | h1
    · rwa [show k = n + 1 by omega] at h
    · rw [repL, repL_none h1 h]; rfl
theorem repL_stop {α : Type} {f : List UInt8 → Option (α × List UInt8)} {n k : Nat} {L r : List UInt8} {xs : List α} (hk : k < n) (h : repL f k L = some (xs, r)) (hf : f r = none) : repL f n L = none :=
  repL_none (k := k + 1) hk (by rw [repL, h, Option.bind_some, hf]; rfl)
theorem repL_app {α : Type} {f : List UInt8 → Option (α × List UInt8)} {enc : α → List UInt8} {ts : List α} (r : List UInt8) (hf : ∀ x ∈ ts, ∀ r, f (enc x ++ r) = some (x, r)) : repL f ts.length (ts.flatMap enc ++ r) = some (ts, r) := by
  have h : ∀ k, k ≤ ts.length → repL f k (ts.flatMap enc ++ r) = some (ts.take k, (ts.drop k).flatMap enc ++ r) := by
    intro k
    induction k with
    | zero => intro _; simp [repL]
    | succ k ih =>
      intro hk
      have e : ts.drop k = ts[k] :: ts.drop (k + 1) := List.drop_eq_getElem_cons hk
      have h2 := ih (by omega)
      rw [e, List.flatMap_cons, List.append_assoc] at h2
      rw [repL_next h2 (hf _ (List.getElem_mem hk) _), List.take_succ_eq_append_getElem hk]
  have := h ts.length (Nat.le_refl _)
  rwa [List.take_length, List.drop_length, List.flatMap_nil, List.nil_append] at this
/-- A bundle without what its texts' slices are. -/
def dumT (ts : List (List UInt8)) : List (Value × List UInt8) := ts.map fun t => (.bool false, t)
theorem dumT_snd (ts : List (List UInt8)) : (dumT ts).map Prod.snd = ts := by simp [dumT, Function.comp_def]
def mkB (c : List UInt8) (m : Nat) (n : List UInt8) (ts : List (List UInt8)) (aus : List Rec) : Bu := ⟨⟨c.toArray⟩, (m : Int), ⟨n.toArray⟩, dumT ts, aus⟩
def bare (b : Bu) : Bu := { b with tx := dumT (b.tx.map Prod.snd) }
theorem fb_same {α β : Type} {f : β → Int} {g : α → β} {l m : List α} (h : l.map g = m.map g) : fbF (fun x => f (g x)) l = fbF (fun x => f (g x)) m := by
  have : ∀ k : List α, k.map (fun x => f (g x)) = (k.map g).map f := fun k => by simp [Function.comp_def]
  rw [fbF, fbF, this, this, h]
structure SameB (b c : Bu) : Prop where
  cls : b.cls = c.cls
  made : b.made = c.made
  note : b.note = c.note
  tx : b.tx.map Prod.snd = c.tx.map Prod.snd
  au : b.au = c.au
theorem SameB.len {b c : Bu} (h : SameB b c) : b.tx.length = c.tx.length := by have := congrArg List.length h.tx; simpa using this
theorem SameB.k {b c : Bu} (h : SameB b c) : buK b = buK c := by
  have e : buHd b = buHd c := by unfold buHd; rw [h.cls, h.made, h.note, h.len, h.au]
  have e2 : fbF txKs b.tx = fbF txKs c.tx := fb_same (f := fun l : List UInt8 => txK l.length) (g := Prod.snd) h.tx
  unfold buK; rw [e, e2, h.au]
theorem SameB.adr {b c : Bu} (h : SameB b c) : buAdr b = buAdr c := by
  have e : buAds b.tx = buAds c.tx := by
    have : ∀ L : List (Value × List UInt8), buAds L = (L.map Prod.snd).map txOf := fun L => by simp [buAds, Function.comp_def]
    rw [this, this, h.tx]
  apply Subtype.ext
  show clAdr _ _ _ _ = clAdr _ _ _ _
  rw [h.cls, h.made, h.note, e]
theorem SameB.seal_ {b c : Bu} (h : SameB b c) : buSeal b = buSeal c := by
  unfold buSeal buTh; rw [h.k, h.adr, h.tx, h.au]
theorem SameB.said {b c : Bu} (h : SameB b c) : buSaid b = buSaid c := by
  have e : buTs b.tx = buTs c.tx := by
    have : ∀ L : List (Value × List UInt8), buTs L = (L.map Prod.snd).flatMap fldL := fun L => by simp [buTs, List.flatMap_map]
    rw [this, this, h.tx]
  unfold buSaid buS0; rw [h.cls, h.made, h.note, h.len, e, h.au, h.seal_]
theorem SameB.bytes {b c : Bu} (h : SameB b c) : buBytes b = buBytes c := by unfold buBytes; rw [h.k, h.said]
theorem bare_same (b : Bu) : SameB (bare b) b := ⟨rfl, rfl, rfl, dumT_snd _, rfl⟩
theorem SameB.symm {b c : Bu} (h : SameB b c) : SameB c b := ⟨h.cls.symm, h.made.symm, h.note.symm, h.tx.symm, h.au.symm⟩
theorem SameB.trans {a b c : Bu} (h : SameB a b) (k : SameB b c) : SameB a c := ⟨h.cls.trans k.cls, h.made.trans k.made, h.note.trans k.note, h.tx.trans k.tx, h.au.trans k.au⟩
def decE (c : List UInt8) (m : Nat) (n : List UInt8) (ts : List (List UInt8)) (aus : List Rec) (x : List UInt8 × List UInt8) : Option Bu :=
  if buK (mkB c m n ts aus) = 0 ∧ (buSeal (mkB c m n ts aus)).1 = x.1 ∧ x.2 = [] then some (mkB c m n ts aus) else none
def dec8 (c : List UInt8) (m : Nat) (n : List UInt8) (ts : List (List UInt8)) (x : List Rec × List UInt8) : Option Bu := (tkL 32 x.2).bind (decE c m n ts x.1)
def dec7 (c : List UInt8) (m : Nat) (n : List UInt8) (ts : List (List UInt8)) (x : List UInt8 × List UInt8) : Option Bu := (repL rcL (getL x.1) x.2).bind (dec8 c m n ts)
def dec6 (c : List UInt8) (m : Nat) (n : List UInt8) (x : List (List UInt8) × List UInt8) : Option Bu := (tkL 1 x.2).bind (dec7 c m n x.1)
def dec5 (c : List UInt8) (m : Nat) (n : List UInt8) (x : List UInt8 × List UInt8) : Option Bu := (repL fdL (getL x.1) x.2).bind (dec6 c m n)
def dec4 (c : List UInt8) (m : Nat) (x : List UInt8 × List UInt8) : Option Bu := (tkL 1 x.2).bind (dec5 c m x.1)
def dec3 (c : List UInt8) (x : List UInt8 × List UInt8) : Option Bu := (fdL x.2).bind (dec4 c (getL x.1))
def dec2 (x : List UInt8 × List UInt8) : Option Bu := (tkL 6 x.2).bind (dec3 x.1)
def dec1 (x : List UInt8 × List UInt8) : Option Bu := if x.1 = buW then (fdL x.2).bind dec2 else none
def decB (L : List UInt8) : Option Bu := (tkL 4 L).bind dec1
theorem getL_one (n : Nat) (h : n ≤ 255) : getL [nB n] = n := by
  have h2 : (nB n).toNat = n := by
    have := kB_toNat (k := (n : Int)) (by omega) (by omega)
    rw [nB]; omega
  simp [getL, h2]
theorem flds_map (L : List (Value × List UInt8)) : buTs L = (L.map Prod.snd).flatMap fldL := by simp [buTs, List.flatMap_map]
theorem arr_eq (s : ByteArray) : (⟨s.data.toList.toArray⟩ : ByteArray) = s := by cases s; simp
theorem dec_said {b : Bu} (h : buK b = 0) : decB (buSaid b) = some (bare b) := by
  have hd := buHd_ok.1 (buK_ok h).1
  have ht := (buK_ok h).2.1
  have ha := (buK_ok h).2.2
  have hm : (b.made.toNat : Int) = b.made := by omega
  have hu : getL (putL (u64N b.made) 6) = b.made.toNat := by
    rw [getL_put, u64N_pos hd.2.1.1 (by omega), show (256 : Nat) ^ 6 = 281474976710656 from rfl]; omega
  have e : buSaid b = buW ++ (fldL b.cls.data.toList ++ (putL (u64N b.made) 6 ++ (fldL b.note.data.toList ++ ([nB b.tx.length] ++ ((b.tx.map Prod.snd).flatMap fldL ++ ([nB b.au.length] ++ (b.au.flatMap putB ++ ((buSeal b).1 ++ [])))))))) := by
    rw [buSaid, buS0, flds_map, buAs]; simp only [List.append_assoc, List.append_nil]
  have hb : mkB b.cls.data.toList b.made.toNat b.note.data.toList (b.tx.map Prod.snd) b.au = bare b := by
    unfold mkB bare; rw [arr_eq, arr_eq, hm]
  have e1 : b.cls.data.toList.length = b.cls.size := by rw [Array.length_toList]; rfl
  have e2 : b.note.data.toList.length = b.note.size := by rw [Array.length_toList]; rfl
  rw [e, decB, tkL_app 4 buW _ rfl, Option.bind_some, dec1, if_pos rfl, fdL_app _ (by omega), Option.bind_some, dec2, tkL_app 6 _ _ (putL_length _ _), Option.bind_some, dec3, fdL_app _ (by omega), Option.bind_some, dec4, tkL_app 1 _ _ rfl, Option.bind_some, dec5]
  simp only []
  have hr := repL_app (f := fdL) (enc := fldL) (ts := b.tx.map Prod.snd) ([nB b.au.length] ++ (b.au.flatMap putB ++ ((buSeal b).1 ++ []))) fun x hx r => by
    obtain ⟨y, hy, rfl⟩ := List.mem_map.1 hx
    exact fdL_app r (by have := ht y hy; omega)
  rw [List.length_map] at hr
  rw [getL_one _ (by omega), hr, Option.bind_some, dec6, tkL_app 1 _ _ rfl, Option.bind_some, dec7]
  simp only []
  rw [getL_one _ (by omega), repL_app _ fun x hx r => rcL_app r (ha x hx), Option.bind_some, dec8, tkL_app 32 _ _ (buSeal b).2, Option.bind_some, decE, hu, hb, if_pos ⟨(bare_same b).k.trans h, by rw [(bare_same b).seal_], rfl⟩]
end Go.Mo
namespace Go.Mo
section cut3
variable {P : Program} {n : Nat} {f : Fm} {w : World} {o : Oper} {x y : Operand}
/-- A cut with a bound of its own. -/
theorem rd_slice3 {T E : TypeId} {A : Option Addr} {m c hi sz : Nat} {xh xm : Operand} {k k' : IntKind} (ho : o.op = .slice T x none (some xh) (some xm)) (hx : ev n f x = .slice A m c) (hT : P.underlying T = some (.slice E)) (hs : (P.info? E).map (·.size) = some sz)
    (hh : ev n f xh = .int k (hi : Int)) (hm : ev n f xm = .int k' (hi : Int)) (h2 : hi ≤ c) : Rd P n f o w (.slice (if hi = 0 then A else A.map (·.add (0 * sz))) (hi - 0) (hi - 0)) := by
  simp [Rd, execOp, ho, hx, hh, hm, Instr.sliceAt, Instr.slice, Instr.sliceBounds, run_underlying hT, run_bound (P := P) (w := w) (k := k) (i := (hi : Int)) rfl (Nat.le_refl hi), run_bound (P := P) (w := w) (k := k') (i := (hi : Int)) rfl h2, run_sizeOf hs, Sem.run]
theorem Sl.cut3 {w : World} {A : Option Addr} {n c : Nat} {l : List UInt8} (h : Sl w (.slice A n c) 1 n (bys l)) (hi : Nat) (h2 : hi ≤ n) :
    Sl w (.slice (if hi = 0 then A else A.map (·.add (0 * 1))) (hi - 0) (hi - 0)) 1 hi (bys (l.take hi)) := by
  have hl := h.blen
  have h1 := h.cutB 0 hi (Nat.zero_le _) h2
  rw [List.drop_zero, Nat.sub_zero] at h1
  rw [Nat.sub_zero]
  obtain ⟨A', c', he, h3, h4, h5, h6⟩ := h1
  injection he with e1 e2 e3
  refine ⟨_, hi, rfl, Nat.le_refl _, by omega, h5, ?_⟩
  rcases h6 with h6 | ⟨g, b, hg, h6⟩
  · exact .inl h6
  · rcases Nat.eq_zero_or_pos hi with hz | hz
    · subst hz; exact .inl rfl
    · refine .inr ⟨g, b, ?_, h6⟩
      rw [if_neg (by omega)]
      rw [← hg, ← e1]
      split
      · rename_i hc
        obtain ⟨_, _, q, q1, _⟩ := h
        injection q with q2 q3 q4
        omega
      · rfl
theorem Sl.cutD {w : World} {A : Option Addr} {n c : Nat} {l : List UInt8} (h : Sl w (.slice A n c) 1 n (bys l)) (lo : Nat) (h1 : lo ≤ n) :
    Sl w (.slice (if c = lo then A else A.map (·.add (lo * 1))) (n - lo) (c - lo)) 1 (l.drop lo).length (bys (l.drop lo)) := by
  have hl := h.blen
  have h2 := h.cutB lo n h1 (Nat.le_refl _)
  have e : (l.drop lo).length = n - lo := by rw [List.length_drop]; omega
  rw [List.take_of_length_le (by omega)] at h2
  rw [e]; exact h2
theorem i64_nat {p : Nat} (h : p < 9223372036854775808) : IntKind.i64.wrap (p : Int) = p := IntWalk.i64_in _ (by omega)
theorem mod_g {wb w0 w : World} {g : Nat} (hm : Mod [] wb w0) (hg : wb.heap.size ≤ g) (h : Mod [g] w0 w) : Mod [] wb w := hm.trans h (by intro x hx; rw [List.mem_singleton.1 hx]; exact .inr hg)
end cut3
end Go.Mo
namespace Go.Mo
theorem get_one1 {l : List UInt8} (h : l.length = 1) : getL l = (l.getD 0 0).toNat := by
  match l, h with
  | [c], _ => simp [getL]
theorem fdL_len {L a r : List UInt8} (h : fdL L = some (a, r)) : a.length ≤ 65535 := by
  rw [fdL] at h
  cases e : tkL 2 L with
  | none => rw [e] at h; cases h
  | some x =>
    obtain ⟨x, s⟩ := x
    rw [e, Option.bind_some] at h
    have h2 := (tkL_of e).2
    have h4 := (tkL_of h).2
    have hl := getL_lt x
    rw [h2, show (256 : Nat) ^ 2 = 65536 from rfl] at hl
    simp only [] at h4
    omega
theorem rcL_yes {L : List UInt8} (h : 155 ≤ L.length) (h2 : getE (L.take 155) = 0) : rcL L = some (getR (L.take 155), L.drop 155) := by rw [rcL, tkL_yes h, Option.bind_some, if_pos h2]
theorem rcL_no1 {L : List UInt8} (h : L.length < 155) : rcL L = none := by rw [rcL, tkL_no h]; rfl
theorem rcL_no2 {L : List UInt8} (h : 155 ≤ L.length) (h2 : ¬ getE (L.take 155) = 0) : rcL L = none := by rw [rcL, tkL_yes h, Option.bind_some, if_neg h2]
theorem getR_small (l : List UInt8) : (getR l).actor.size ≤ 4294967296 ∧ (getR l).reason.size ≤ 4294967296 := by
  unfold getR
  split
  · have h1 := unpadL_le (b := grA l)
    have h2 : (grA l).length ≤ 16 := List.length_take_le _ _
    have h3 := unpadL_le (b := grQ l)
    have h4 : (grQ l).length ≤ 32 := List.length_take_le _ _
    constructor
    · show (unpadL (grA l)).length ≤ _; omega
    · show (unpadL (grQ l)).length ≤ _; omega
  · exact ⟨by decide, by decide⟩
theorem mk_same {B : Bu} {c : List UInt8} {m : Nat} {n : List UInt8} (h1 : B.cls = ⟨c.toArray⟩) (h2 : B.made = (m : Int)) (h3 : B.note = ⟨n.toArray⟩) : mkB c m n (B.tx.map Prod.snd) B.au = bare B := by
  unfold mkB bare; rw [h1, h2, h3]
theorem decE_yes {B : Bu} {c : List UInt8} {m : Nat} {n s r : List UInt8} (h1 : B.cls = ⟨c.toArray⟩) (h2 : B.made = (m : Int)) (h3 : B.note = ⟨n.toArray⟩) (hk : buK B = 0) (hs : (buSeal B).1 = s) (hr : r = []) : decE c m n (B.tx.map Prod.snd) B.au (s, r) = some (bare B) := by
  rw [decE, mk_same h1 h2 h3, if_pos ⟨by rw [(bare_same B).k]; exact hk, by rw [(bare_same B).seal_]; exact hs, hr⟩]
theorem decE_no {B : Bu} {c : List UInt8} {m : Nat} {n s r : List UInt8} (h1 : B.cls = ⟨c.toArray⟩) (h2 : B.made = (m : Int)) (h3 : B.note = ⟨n.toArray⟩) (h : ¬ (buK B = 0 ∧ (buSeal B).1 = s ∧ r = [])) : decE c m n (B.tx.map Prod.snd) B.au (s, r) = none := by
  rw [decE, mk_same h1 h2 h3, if_neg (by rw [(bare_same B).k, (bare_same B).seal_]; exact h)]
end Go.Mo
namespace Go.Mo
theorem row_one {w : World} {T sz m : Nat} {v : Value} {xs : List Value} (h : (Res.row T sz v m xs).at_ w) : v.oneCell' = true := by
  obtain ⟨A, c, rfl⟩ := row_shape h; rfl
end Go.Mo
namespace Go.Mo
def buZ : List Value := [.string ⟨#[]⟩, .int .i64 0, .string ⟨#[]⟩, .slice none 0 0, .slice none 0 0]
def buRows (SB U8 REC : Nat) (B : Bu) (tv av : Value) : List Res := [.row SB 1 tv B.tx.length (B.tx.map Prod.fst), packL (rowsZ U8 B.tx), .row REC 100 av B.au.length (B.au.flatMap recC)]
/-- What Try and Get give. -/
def TryR (SB U8 REC : Nat) (D : Option Bu) (L : List Value) (c : Int) (H : List Res) : Prop :=
  (c = 0 ∧ ∃ B tv av, L = buC B tv av ∧ tv.oneCell' = true ∧ av.oneCell' = true ∧ D = some (bare B) ∧ BuSm B ∧ H = buRows SB U8 REC B tv av) ∨ ((c = 3 ∨ c = 5 ∨ c = 15) ∧ L = buZ ∧ D = none ∧ H = [])
theorem TryR.len {SB U8 REC : Nat} {D : Option Bu} {L : List Value} {c : Int} {H : List Res} (h : TryR SB U8 REC D L c H) : L.length = 5 := by
  rcases h with ⟨_, B, tv, av, rfl, _⟩ | ⟨_, rfl, _⟩ <;> rfl
theorem TryR.one {SB U8 REC : Nat} {D : Option Bu} {L : List Value} {c : Int} {H : List Res} (h : TryR SB U8 REC D L c H) : ∀ u ∈ L, u.oneCell' = true := by
  rcases h with ⟨_, B, tv, av, rfl, h1, h2, _⟩ | ⟨_, rfl, _⟩
  · exact oneC rfl (oneC rfl (oneC rfl (oneC h1 (oneC h2 one0))))
  · exact oneC rfl (oneC rfl (oneC rfl (oneC rfl (oneC rfl one0))))
theorem Hp.oneR {w : World} {r : Res} (h : r.at_ w) : Hp w r.foot w [r] := ⟨Mod.refl _ w, by simpa using h, fun x hx g hg => .inr (by rw [List.mem_singleton.1 hx] at hg; exact hg), by simp⟩
theorem mod_pack {wb w0 w w1 : World} {g : Nat} {r : Res} {H : List Res} (hm : Mod [] wb w0) (hg : wb.heap.size ≤ g) (hp : Hp w0 [g] w (r :: H)) (h1 : Mod r.foot w w1) : Mod [] wb w1 :=
  (mod_g hm hg hp.mod).trans h1 fun x hx => by
    rcases hp.new r (by simp) x hx with h | h
    · exact .inr (Nat.le_trans hm.size h)
    · rw [List.mem_singleton.1 h]; exact .inr hg
def getB (l : List UInt8) : Option Bu := if l.length ≤ 32768 ∧ holdsL l = true then decB (l.take (l.length - 4)) else none
theorem getB_yes {l : List UInt8} (h : l.length ≤ 32768) (h2 : holdsL l = true) : getB l = decB (l.take (l.length - 4)) := if_pos ⟨h, h2⟩
theorem getB_big {l : List UInt8} (h : ¬ l.length ≤ 32768) : getB l = none := if_neg fun q => h q.1
theorem getB_bad {l : List UInt8} (h : holdsL l = false) : getB l = none := if_neg fun q => by rw [h] at q; cases q.2
theorem holds_seal (s : List UInt8) : holdsL (sealL s) = true := by
  have e : (sealL s).length = s.length + 4 := by simp [sealL, fourL]
  rw [holdsL, e, Nat.add_sub_cancel, sealL, List.take_left' rfl, List.drop_left' rfl]
  simp
theorem getB_put {B : Bu} (h : buK B = 0) (hl : (buBytes B).length ≤ 32768) : getB (buBytes B) = some (bare B) := by
  have e := buBytes_yes h
  rw [e] at hl ⊢
  have e2 : (sealL (buSaid B)).length = (buSaid B).length + 4 := by simp [sealL, fourL]
  rw [getB_yes hl (holds_seal _), e2, Nat.add_sub_cancel, sealL, List.take_left' rfl, dec_said h]
end Go.Mo
namespace Go.Mo
def sameQ (a b : Bu) : Prop := a.cls = b.cls ∧ a.made = b.made ∧ a.note = b.note ∧ a.tx.map Prod.snd = b.tx.map Prod.snd ∧ a.au = b.au
instance (a b : Bu) : Decidable (sameQ a b) := by unfold sameQ; exact inferInstance
theorem sameQ_iff {a b : Bu} : sameQ a b ↔ SameB a b := ⟨fun ⟨h1, h2, h3, h4, h5⟩ => ⟨h1, h2, h3, h4, h5⟩, fun h => ⟨h.cls, h.made, h.note, h.tx, h.au⟩⟩
theorem getD_snd {L : List (Value × List UInt8)} {i : Nat} (h : i < L.length) : (L.map Prod.snd)[i]? = some (L.getD i default).2 := by
  rw [List.getElem?_map, List.getD_eq_getElem?_getD, List.getElem?_eq_getElem h]; rfl
theorem snd_ext {a b : List (Value × List UInt8)} (hl : a.length = b.length) (h : ∀ j, j < a.length → (a.getD j default).2 = (b.getD j default).2) : a.map Prod.snd = b.map Prod.snd := by
  apply List.ext_getElem?
  intro j
  rcases Nat.lt_or_ge j a.length with hj | hj
  · rw [getD_snd hj, getD_snd (by omega), h j hj]
  · rw [List.getElem?_eq_none (by simpa using hj), List.getElem?_eq_none (by simp; omega)]
theorem snd_at {a b : List (Value × List UInt8)} (h : a.map Prod.snd = b.map Prod.snd) {j : Nat} (hj : j < a.length) : (a.getD j default).2 = (b.getD j default).2 := by
  have hl : a.length = b.length := by have := congrArg List.length h; simpa using this
  have h1 := getD_snd hj
  have h2 := getD_snd (L := b) (i := j) (by omega)
  rw [h, h2] at h1
  injection h1 with h1
  exact h1.symm
theorem rec_exti {l m : List Rec} (hl : l.length = m.length) (h : ∀ j, j < l.length → recAt l j = recAt m j) : l = m := by
  apply List.ext_getElem?
  intro j
  rcases Nat.lt_or_ge j l.length with hj | hj
  · rw [recAt_some hj, recAt_some (l := m) (by omega), h j hj]
  · rw [List.getElem?_eq_none hj, List.getElem?_eq_none (by omega)]
def bu0 : Bu := ⟨⟨#[]⟩, 0, ⟨#[]⟩, [], []⟩
theorem bu0_at (w : World) : BuAt bu0 (.slice none 0 0) (.slice none 0 0) w := ⟨Sl.nil w 1, fun x hx => (by cases hx), Sl.nil w 100⟩
theorem bu0_sm : BuSm bu0 := ⟨by decide, by decide, by decide, fun x hx => (by cases hx), by decide, fun x hx => (by cases hx)⟩
def rp8 : List Value := [.int .i64 8] ++ List.replicate 32 (.int .u8 0) ++ [.slice none 0 0, .slice none 0 0, .int .i64 0, .bool false]
theorem byte_arr {x y : List UInt8} : (⟨x.toArray⟩ : ByteArray) = ⟨y.toArray⟩ ↔ x = y := by
  constructor
  · intro h
    have := congrArg (fun s : ByteArray => s.data.toList) h
    simpa using this
  · intro h; rw [h]
theorem flips_one (p : List UInt8) (n : Nat) : ∀ k, flips p n 1 (k + 1) = flipB p n
  | 0 => by simp [flips]
  | k + 1 => by
    have e : (1 : Nat).testBit (k + 1) = false := by rw [Nat.testBit_succ]; simp
    rw [flips, e]; exact flips_one p n k
end Go.Mo
namespace Go.Mo
theorem holds_len {l : List UInt8} (h : holdsL l = true) : 4 ≤ l.length := by
  simp only [holdsL, Bool.and_eq_true, decide_eq_true_eq] at h; exact h.1
end Go.Mo
namespace Go.Mo
theorem Hp.newAt {w0 w : World} {H : List Res} {g : Nat} {o : Obj} (h : Hp w0 [] w H) (i : Nat) (hi : H[i]? = some (.blk g o)) : w0.heap.size ≤ g :=
  (h.new _ (List.mem_of_getElem? hi) g (by simp [Res.foot])).resolve_right (by simp)
end Go.Mo
