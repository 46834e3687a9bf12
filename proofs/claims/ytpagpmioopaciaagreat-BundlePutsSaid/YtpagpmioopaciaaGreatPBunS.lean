/- Bundles: plain laws. -/
import Derived.Test.YtpagpmioopaciaaGreatPTreS
import Derived.Test.YtpagpmioopaciaaGreatPImgS
import Derived.Test.YtpagpmioopaciaaGreatPCrcS
set_option linter.unusedVariables false
set_option linter.unusedSimpArgs false
namespace Go.Mo
open Go.RowKit
/-- The first number that is not nought. -/
def fb : List Int → Int
  | [] => 0
  | x :: l => if x = 0 then fb l else x
theorem fb_app : ∀ a b : List Int, fb (a ++ b) = if fb a = 0 then fb b else fb a
  | [], b => by simp [fb]
  | x :: a, b => by
    by_cases h : x = 0
    · simp only [List.cons_append, fb, if_pos h]; exact fb_app a b
    · simp only [List.cons_append, fb, if_neg h]
def fbF {α : Type} (f : α → Int) (l : List α) : Int := fb (l.map f)
theorem fbF_next {α : Type} [Inhabited α] {f : α → Int} {l : List α} {i : Nat} (h : i < l.length) (hz : fbF f (l.take i) = 0) (hx : f (l.getD i default) = 0) : fbF f (l.take (i + 1)) = 0 := by
  have e : l[i]? = some (l.getD i default) := by rw [List.getD_eq_getElem?_getD, List.getElem?_eq_getElem h]; rfl
  rw [take_one e, fbF, List.map_append, fb_app, if_pos (show fb ((l.take i).map f) = 0 from hz)]
  rw [List.map_cons, List.map_nil, fb, if_pos hx]; rfl
theorem fbF_stop {α : Type} [Inhabited α] {f : α → Int} {l : List α} {i : Nat} (h : i < l.length) (hz : fbF f (l.take i) = 0) (hx : ¬ f (l.getD i default) = 0) : fbF f l = f (l.getD i default) := by
  have e : l[i]? = some (l.getD i default) := by rw [List.getD_eq_getElem?_getD, List.getElem?_eq_getElem h]; rfl
  obtain ⟨hl, e2⟩ := List.getElem?_eq_some_iff.1 e
  conv => lhs; rw [← List.take_append_drop i l, List.drop_eq_getElem_cons hl, e2]
  rw [fbF, List.map_append, fb_app, if_pos (show fb ((l.take i).map f) = 0 from hz), List.map_cons, fb, if_neg hx]
theorem fbF_zero {α : Type} {f : α → Int} : ∀ {l : List α}, fbF f l = 0 → ∀ x ∈ l, f x = 0
  | [], _, x, hx => by cases hx
  | a :: l, h, x, hx => by
    rw [fbF, List.map_cons, fb] at h
    by_cases ha : f a = 0
    · rw [if_pos ha] at h
      rcases List.mem_cons.1 hx with e | e
      · rw [e]; exact ha
      · exact fbF_zero h x e
    · rw [if_neg ha] at h; exact absurd h ha
structure Bu where
  cls : ByteArray
  made : Int
  note : ByteArray
  tx : List (Value × List UInt8)
  au : List Rec
def buC (b : Bu) (tv av : Value) : List Value := [.string b.cls, .int .i64 b.made, .string b.note, tv, av]
structure BuAt (b : Bu) (tv av : Value) (w : World) : Prop where
  tx : Sl w tv 1 b.tx.length (b.tx.map Prod.fst)
  txs : ∀ x ∈ b.tx, Sl w x.1 1 x.2.length (bys x.2)
  au : Sl w av 100 b.au.length (b.au.flatMap recC)
theorem BuAt.keep {b : Bu} {tv av : Value} {w w' : World} (h : BuAt b tv av w) (hm : Mod [] w w') : BuAt b tv av w' := ⟨h.tx.keep hm, fun x hx => (h.txs x hx).keep hm, h.au.keep hm⟩
structure BuSm (b : Bu) : Prop where
  c : b.cls.size ≤ 65535
  n : b.note.size ≤ 65535
  l : b.tx.length ≤ 65535
  t : ∀ x ∈ b.tx, x.2.length ≤ 65535
  k : b.au.length ≤ 65535
  a : ∀ r ∈ b.au, r.actor.size ≤ 4294967296 ∧ r.reason.size ≤ 4294967296
def txK (n : Nat) : Int := if n = 0 then 1 else if 2048 < n then 15 else 0
def txKs (x : Value × List UInt8) : Int := txK x.2.length
def buHd (b : Bu) : Int := if b.cls.size < 1 ∨ 15 < b.cls.size then 10 else if b.made < 0 ∨ 1099511627776 < b.made then 2 else if 31 < b.note.size then 15 else if b.tx.length < 1 ∨ 4 < b.tx.length then 1 else if 80 < b.au.length then 7 else 0
def buK (b : Bu) : Int := if ¬ buHd b = 0 then buHd b else if fbF txKs b.tx = 0 then fbF checkR b.au else fbF txKs b.tx
theorem buHd_ok {b : Bu} : buHd b = 0 ↔ (1 ≤ b.cls.size ∧ b.cls.size ≤ 15) ∧ (0 ≤ b.made ∧ b.made ≤ 1099511627776) ∧ b.note.size ≤ 31 ∧ (1 ≤ b.tx.length ∧ b.tx.length ≤ 4) ∧ b.au.length ≤ 80 := by
  unfold buHd
  split; omega
  split; omega
  split; omega
  split; omega
  split <;> omega
theorem buK_hd {b : Bu} (h : ¬ buHd b = 0) : buK b = buHd b := if_pos h
theorem buK_tx {b : Bu} (h : buHd b = 0) (h2 : ¬ fbF txKs b.tx = 0) : buK b = fbF txKs b.tx := by rw [buK, if_neg (by rw [h]; simp), if_neg h2]
theorem buK_au {b : Bu} (h : buHd b = 0) (h2 : fbF txKs b.tx = 0) : buK b = fbF checkR b.au := by rw [buK, if_neg (by rw [h]; simp), if_pos h2]
theorem buK_ok {b : Bu} (h : buK b = 0) : buHd b = 0 ∧ (∀ x ∈ b.tx, 0 < x.2.length ∧ x.2.length ≤ 2048) ∧ ∀ r ∈ b.au, checkR r = 0 := by
  by_cases h1 : buHd b = 0
  · by_cases h2 : fbF txKs b.tx = 0
    · refine ⟨h1, fun x hx => ?_, fun r hr => ?_⟩
      · have := fbF_zero h2 x hx
        unfold txKs txK at this
        split at this; omega
        split at this <;> omega
      · rw [buK_au h1 h2] at h
        exact fbF_zero h r hr
    · rw [buK_tx h1 h2] at h; exact absurd h h2
  · rw [buK_hd h1] at h; exact absurd h h1
def buAds (L : List (Value × List UInt8)) : List A32 := L.map fun x => txOf x.2
theorem buAds_snoc {L : List (Value × List UInt8)} {i : Nat} (h : i < L.length) : buAds (L.take (i + 1)) = buAds (L.take i) ++ [txOf (L.getD i default).2] := by
  have e : L[i]? = some (L.getD i default) := by rw [List.getD_eq_getElem?_getD, List.getElem?_eq_getElem h]; rfl
  rw [take_one e, buAds, List.map_append]; rfl
def buAdr (b : Bu) : A32 := ⟨clAdr b.cls b.made b.note (buAds b.tx), clAdr_length _ _ _ _⟩
def buTh (b : Bu) : List (List UInt8) := (buAdr b).1 :: (b.tx.map Prod.snd ++ b.au.map putB)
def buSeal (b : Bu) : A32 := if buK b = 0 then rootL (buTh b) else a32Z
def fldL (x : List UInt8) : List UInt8 := putL x.length 2 ++ x
theorem fldL_len (x : List UInt8) : (fldL x).length = 2 + x.length := by simp [fldL, putL_length]
def buW : List UInt8 := [66, 85, 78, 68]
def nB (n : Nat) : UInt8 := kB (n : Int)
def buTs (L : List (Value × List UInt8)) : List UInt8 := L.flatMap fun x => fldL x.2
def buAs (l : List Rec) : List UInt8 := l.flatMap putB
def buS0 (b : Bu) : List UInt8 := buW ++ fldL b.cls.data.toList ++ putL (u64N b.made) 6 ++ fldL b.note.data.toList ++ [nB b.tx.length]
def buSaid (b : Bu) : List UInt8 := buS0 b ++ buTs b.tx ++ [nB b.au.length] ++ buAs b.au ++ (buSeal b).1
def buBytes (b : Bu) : List UInt8 := if buK b = 0 then sealL (buSaid b) else []
theorem buTs_snoc {L : List (Value × List UInt8)} {i : Nat} (h : i < L.length) : buTs (L.take (i + 1)) = buTs (L.take i) ++ fldL (L.getD i default).2 := by
  have e : L[i]? = some (L.getD i default) := by rw [List.getD_eq_getElem?_getD, List.getElem?_eq_getElem h]; rfl
  rw [take_one e, buTs, List.flatMap_append]; simp [buTs]
theorem buAs_snoc {l : List Rec} {i : Nat} (h : i < l.length) : buAs (l.take (i + 1)) = buAs (l.take i) ++ putB (recAt l i) := by
  rw [take_one (recAt_some h), buAs, List.flatMap_append]; simp [buAs]
theorem putB_le (r : Rec) : (putB r).length ≤ 155 := by
  unfold putB; split
  · exact bytesR_le r
  · exact Nat.zero_le _
theorem buTs_le : ∀ (L : List (Value × List UInt8)) {k : Nat}, (∀ x ∈ L, x.2.length ≤ k) → (buTs L).length ≤ (2 + k) * L.length
  | [], k, _ => Nat.zero_le _
  | x :: L, k, h => by
    have h1 := buTs_le L fun y hy => h y (List.mem_cons_of_mem _ hy)
    have h2 := h x (by simp)
    rw [buTs, List.flatMap_cons, List.length_append, fldL_len, List.length_cons, Nat.mul_succ]
    rw [buTs] at h1; omega
theorem buAs_le : ∀ (l : List Rec), (buAs l).length ≤ 155 * l.length
  | [] => Nat.zero_le _
  | r :: l => by
    have h1 := buAs_le l
    have h2 := putB_le r
    rw [buAs, List.flatMap_cons, List.length_append, List.length_cons, Nat.mul_succ]
    rw [buAs] at h1; omega
theorem BuAt.one {b : Bu} {tv av : Value} {w : World} (h : BuAt b tv av w) : ∀ u ∈ b.tx.map Prod.fst, u.oneCell' = true := by
  intro u hu
  obtain ⟨x, hx, rfl⟩ := List.mem_map.1 hu
  obtain ⟨A, c, e⟩ := sl_shape (h.txs x hx)
  rw [e]; rfl
theorem lst_snoc (x y : Value × List UInt8) (T L : List (Value × List UInt8)) : (x :: (T ++ (L ++ [y]))).map Prod.fst = (x :: (T ++ L)).map Prod.fst ++ [y.1] := by simp
theorem strl_len (s : ByteArray) : s.data.toList.length = s.size := by rw [Array.length_toList]; rfl
theorem buTh_len (b : Bu) : (buTh b).length = 1 + b.tx.length + b.au.length := by simp [buTh]; omega
theorem bu_root {b : Bu} (h : buK b = 0) {L : List (Value × List UInt8)} (hs : L.map Prod.snd = buTh b) : rootV (L.map Prod.snd) = buSeal b ∧ trK L.length = 0 := by
  have h1 := buHd_ok.1 (buK_ok h).1
  have hl : L.length = 1 + b.tx.length + b.au.length := by rw [← buTh_len, ← hs, List.length_map]
  have ht : trK L.length = 0 := trK_iff.2 (by omega)
  refine ⟨?_, ht⟩
  rw [rootV, List.length_map, if_pos ht, buSeal, if_pos h, hs]
theorem buSeal_no {b : Bu} (h : ¬ buK b = 0) : buSeal b = a32Z := if_neg h
theorem buBytes_yes {b : Bu} (h : buK b = 0) : buBytes b = sealL (buSaid b) := if_pos h
theorem buBytes_no {b : Bu} (h : ¬ buK b = 0) : buBytes b = [] := if_neg h
theorem put_snoc {l : List Rec} {i : Nat} (h : i < l.length) : (l.take (i + 1)).map putB = (l.take i).map putB ++ [putB (recAt l i)] := by
  rw [take_one (recAt_some h), List.map_append]; rfl
theorem buS0_len {b : Bu} (h : buHd b = 0) : (buS0 b).length ≤ 61 := by
  have h1 := buHd_ok.1 h
  have e1 : b.cls.data.toList.length = b.cls.size := by rw [Array.length_toList]; rfl
  have e2 : b.note.data.toList.length = b.note.size := by rw [Array.length_toList]; rfl
  simp only [buS0, buW, List.length_append, fldL_len, putL_length, List.length_cons, List.length_nil]
  omega
end Go.Mo
