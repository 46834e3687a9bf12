/- An image, its slots and its table as they lie in memory; what there is room for: plain laws. -/
import Derived.Test.YtpagpmioopaciaaQChkS
import Derived.Test.YtpagpmioopaciaaQMaskW
import Derived.Test.YtpagpmioopaciaaQBinN
import Derived.Test.YtpagpmioopaciaaQPack
import Derived.Test.YtpagpmioopaciaaQMapK
set_option linter.unusedVariables false
set_option linter.unusedSimpArgs false
namespace Go.Mo
open Go.RowKit
structure En where
  addr : A32
  slot : Int
  count : Int
deriving DecidableEq
def enZ : En := ⟨a32Z, 0, 0⟩
def enC (x : En) : List Value := bys x.addr.1 ++ [.int .i64 x.slot, .int .i64 x.count]
theorem enC_len (x : En) : (enC x).length = 34 := by simp [enC, bys_length, x.addr.2]
instance : Inhabited En := ⟨enZ⟩
def enAt (l : List En) (i : Nat) : En := l.getD i default
theorem enAt_some {l : List En} {i : Nat} (h : i < l.length) : l[i]? = some (enAt l i) := by rw [enAt, List.getD_eq_getElem?_getD, List.getElem?_eq_getElem h]; rfl
theorem en_skip (x : En) (j : Nat) : (enC x)[32 + j]? = [Value.int .i64 x.slot, .int .i64 x.count][j]? := by
  rw [enC, List.getElem?_append_right (by rw [bys_length, x.addr.2]; omega), bys_length, x.addr.2, Nat.add_sub_cancel_left]
theorem en_count (x : En) : (enC x)[33]? = some (.int .i64 x.count) := en_skip x 1
theorem enC_one (x : En) : ∀ u ∈ enC x, u.oneCell' = true := oneA (bys_one _) (oneC rfl (one1 rfl))
theorem Sl.enE {w : World} {g b m m' c : Nat} {l : List En} (h : Sl w (.slice (some ⟨g, b, none⟩) m c) 34 m' (l.flatMap enC)) (i : Nat) (hi : i < l.length) {j : Nat} {u : Value} (hu : (enC (enAt l i))[j]? = some u) : w.cell? ⟨g, b + i * 34 + j, none⟩ = some u := by
  have hj : j < 34 := by have := (List.getElem?_eq_some_iff.1 hu).1; rwa [enC_len] at this
  rw [Nat.add_assoc]; exact h.get _ _ ((flat_get enC_len l i j (enAt l i) hj (enAt_some hi)).trans hu)
structure Tx where
  addr : A32
  size : Int
  slots : List Int
  bound : Int
abbrev TV := Tx × Value
def txZ : Tx := ⟨a32Z, 0, [], 0⟩
def tvZ : TV := (txZ, .slice none 0 0)
def tvC (x : TV) : List Value := textC x.1.addr.1 x.1.size x.2 x.1.bound
theorem tvC_len (x : TV) : (tvC x).length = 35 := textC_length x.1.addr.2 _ _ _
instance : Inhabited TV := ⟨tvZ⟩
def tvAt (l : List TV) (i : Nat) : TV := l.getD i default
theorem tvAt_some {l : List TV} {i : Nat} (h : i < l.length) : l[i]? = some (tvAt l i) := by rw [tvAt, List.getD_eq_getElem?_getD, List.getElem?_eq_getElem h]; rfl
theorem tvAt_mem {l : List TV} {i : Nat} (h : i < l.length) : tvAt l i ∈ l := List.mem_of_getElem? (tvAt_some h)
theorem tv_addr {x : TV} {j : Nat} {u : Value} (h : (bys x.1.addr.1)[j]? = some u) : (tvC x)[0 + j]? = some u := by
  rw [Nat.zero_add]
  have hj := (List.getElem?_eq_some_iff.1 h).1
  rw [tvC, textC, List.getElem?_append_left hj]; exact h
theorem tv_size (x : TV) : (tvC x)[32]? = some (.int .i64 x.1.size) := txt32 x.1.addr.2 _ _ _
theorem tv_alen (x : TV) : (bys x.1.addr.1).length = 32 := by rw [bys_length]; exact x.1.addr.2
theorem Sl.tvE {w : World} {g b m m' c : Nat} {l : List TV} (h : Sl w (.slice (some ⟨g, b, none⟩) m c) 35 m' (l.flatMap tvC)) (i : Nat) (hi : i < l.length) {j : Nat} {u : Value} (hu : (tvC (tvAt l i))[j]? = some u) : w.cell? ⟨g, b + i * 35 + j, none⟩ = some u := by
  have hj : j < 35 := by have := (List.getElem?_eq_some_iff.1 hu).1; rwa [tvC_len] at this
  rw [Nat.add_assoc]; exact h.get _ _ ((flat_get tvC_len l i j (tvAt l i) hj (tvAt_some hi)).trans hu)
abbrev tvSl (w : World) (l : List TV) : Prop := ∀ x ∈ l, Sl w x.2 1 x.1.slots.length (x.1.slots.map (Value.int .i64))
theorem tvC_one {w : World} {x : TV} (h : Sl w x.2 1 x.1.slots.length (x.1.slots.map (Value.int .i64))) : ∀ u ∈ tvC x, u.oneCell' = true := by
  obtain ⟨A, c, e⟩ := sl_shape h
  exact oneA (bys_one _) (oneC rfl (oneC (by rw [e]; rfl) (one1 rfl)))
/-- The place of the text of an address. -/
def txF (l : List TV) (a : A32) : Int := match l.findIdx? (fun x => decide (0 < x.1.size ∧ x.1.addr = a)) with
  | some i => (i : Int)
  | none => -1
theorem txF_at {l : List TV} {a : A32} {i : Nat} (hi : i < l.length) (h : 0 < (tvAt l i).1.size ∧ (tvAt l i).1.addr = a) (hno : ∀ j, j < i → ¬ (0 < (tvAt l j).1.size ∧ (tvAt l j).1.addr = a)) : txF l a = (i : Int) := by
  have e : l.findIdx? (fun x => decide (0 < x.1.size ∧ x.1.addr = a)) = some i := by
    rw [List.findIdx?_eq_some_iff_getElem]
    have e1 := tvAt_some hi
    rw [List.getElem?_eq_getElem hi] at e1
    refine ⟨hi, by rw [Option.some.inj e1]; exact decide_eq_true h, fun j hj => ?_⟩
    have e2 := tvAt_some (l := l) (i := j) (by omega)
    rw [List.getElem?_eq_getElem (by omega)] at e2
    rw [Option.some.inj e2]
    simpa using hno j hj
  rw [txF, e]
theorem txF_no {l : List TV} {a : A32} (hno : ∀ j, j < l.length → ¬ (0 < (tvAt l j).1.size ∧ (tvAt l j).1.addr = a)) : txF l a = -1 := by
  have e : l.findIdx? (fun x => decide (0 < x.1.size ∧ x.1.addr = a)) = none := by
    rw [List.findIdx?_eq_none_iff]
    intro x hx
    obtain ⟨j, hj⟩ := List.getElem?_of_mem hx
    have hl := (List.getElem?_eq_some_iff.1 hj).1
    rw [tvAt_some hl] at hj
    rw [← Option.some.inj hj]
    simpa using hno j hl
  rw [txF, e]
structure Im where
  p : Pl
  mg : Nat
  tg : Nat
  cg : Nat
  tv : Value
  cv : Value
  av : Value
  now : Int
  ser : Int
  mv : Value
  m : List UInt8
  ev : Value
  n : Int
  e : List En
  T : List TV
  C : List CV
  A : List Rec
def imC (I : Im) : List Value := layC I.p ++ [.pointer (some ⟨I.mg, 0, none⟩), .pointer (some ⟨I.tg, 0, none⟩), .pointer (some ⟨I.cg, 0, none⟩), I.tv, I.cv, I.av, .int .i64 I.now, .int .i64 I.ser]
/-- An image that only is looked at. -/
structure ImAt (IT MT TT g : Nat) (I : Im) (w : World) : Prop where
  i : (cells g IT (imC I)).at_ w
  mm : (cells I.mg MT [I.mv]).at_ w
  mb : Sl w I.mv 1 I.m.length (bys I.m)
  tt : (cells I.tg TT [I.ev, .int .i64 I.n]).at_ w
  te : Sl w I.ev 34 I.e.length (I.e.flatMap enC)
  tx : Sl w I.tv 35 I.T.length (I.T.flatMap tvC)
  txs : tvSl w I.T
  cl : Sl w I.cv 39 I.C.length (I.C.flatMap cvC)
  cls : cvSl w I.C
  au : Sl w I.av 100 I.A.length (I.A.flatMap recC)
theorem ImAt.keep {IT MT TT g : Nat} {I : Im} {w w' : World} (h : ImAt IT MT TT g I w) (hm : Mod [] w w') : ImAt IT MT TT g I w' :=
  ⟨cells.keep h.i hm, cells.keep h.mm hm, h.mb.keep hm, cells.keep h.tt hm, h.te.keep hm, h.tx.keep hm, fun x hx => (h.txs x hx).keep hm, h.cl.keep hm, fun x hx => ⟨(h.cls x hx).1.keep hm, (h.cls x hx).2.keep hm⟩, h.au.keep hm⟩
def slB (m : List UInt8) (k : Int) (i : Nat) : Bool := decide (((m.getD i 0).toNat : Int) = k)
def slI (m : List UInt8) (k : Int) : List Nat := (List.range m.length).filter (slB m k)
def slN (m : List UInt8) (k : Int) : Nat := (slI m k).length
theorem slI_mid {m : List UInt8} {k : Int} {i : Nat} (hi : i < m.length) (h : slB m k i = true) : slI m k = (List.range i).filter (slB m k) ++ i :: ((List.range m.length).drop (i + 1)).filter (slB m k) := by
  have e : List.range m.length = List.range i ++ i :: (List.range m.length).drop (i + 1) := by
    have h1 := List.take_append_drop i (List.range m.length)
    rw [List.drop_eq_getElem_cons (by rw [List.length_range]; exact hi), List.getElem_range, List.take_range, Nat.min_eq_left (by omega)] at h1
    exact h1.symm
  unfold slI
  conv => lhs; rw [e]
  rw [List.filter_append, List.filter_cons, if_pos h]
theorem slF_yes {m : List UInt8} {k : Int} {i : Nat} (h : slB m k i = true) : (List.range (i + 1)).filter (slB m k) = (List.range i).filter (slB m k) ++ [i] := by
  rw [List.range_succ, List.filter_append]; simp [h]
theorem slF_no {m : List UInt8} {k : Int} {i : Nat} (h : slB m k i = false) : (List.range (i + 1)).filter (slB m k) = (List.range i).filter (slB m k) := by
  rw [List.range_succ, List.filter_append]; simp [h]
theorem slN_le (m : List UInt8) (k : Int) : slN m k ≤ m.length := by
  have := List.length_filter_le (slB m k) (List.range m.length)
  rw [List.length_range] at this; exact this
theorem slN_zero (n : Nat) : slN (List.replicate n 0) 0 = n := by
  unfold slN slI
  rw [List.length_replicate, List.filter_eq_self.2, List.length_range]
  intro i hi
  unfold slB
  rw [List.getD_eq_getElem?_getD, List.getElem?_replicate_of_lt (List.mem_range.1 hi)]; rfl
theorem slN_zero2 (n : Nat) : slN (List.replicate n 0) 2 = 0 := by
  unfold slN slI
  rw [List.length_replicate, List.filter_eq_nil_iff.2]; rfl
  intro i hi
  unfold slB
  rw [List.getD_eq_getElem?_getD, List.getElem?_replicate_of_lt (List.mem_range.1 hi)]; decide
structure Rm where
  ch : Int
  tx : Int
  cl : Int
  au : Int
  la : Int
deriving DecidableEq
def rmC (r : Rm) : List Value := [.int .i64 r.ch, .int .i64 r.tx, .int .i64 r.cl, .int .i64 r.au, .int .i64 r.la]
def rmZ : Rm := ⟨0, 0, 0, 0, 0⟩
def freT (T : List TV) (i : Nat) : Nat := ((T.take i).filter fun x => decide (x.1.size = 0)).length
def freC (C : List CV) (i : Nat) : Nat := ((C.take i).filter fun x => decide (x.1.texts.length = 0)).length
theorem freT_succ {T : List TV} {i : Nat} (hi : i < T.length) : freT T (i + 1) = if (tvAt T i).1.size = 0 then freT T i + 1 else freT T i := by
  unfold freT
  rw [List.take_add_one, tvAt_some hi, List.filter_append, List.length_append]
  split <;> simp [*]
theorem freC_succ {C : List CV} {i : Nat} (hi : i < C.length) : freC C (i + 1) = if (cvAt C i).1.texts.length = 0 then freC C i + 1 else freC C i := by
  unfold freC
  rw [List.take_add_one, cvAt_some hi, List.filter_append, List.length_append]
  split <;> simp_all
theorem freT_le (T : List TV) (i : Nat) : freT T i ≤ i := by
  unfold freT
  have := List.length_filter_le (fun x : TV => decide (x.1.size = 0)) (T.take i)
  rw [List.length_take] at this; omega
theorem freC_le (C : List CV) (i : Nat) : freC C i ≤ i := by
  unfold freC
  have := List.length_filter_le (fun x : CV => decide (x.1.texts.length = 0)) (C.take i)
  rw [List.length_take] at this; omega
def roomR (I : Im) : Rm := ⟨slN I.m 0, freT I.T I.T.length, freC I.C I.C.length, I.p.a - I.A.length, slN I.m 0 + slN I.m 2⟩
def sumK (L : List Nat) : Int := (L.map fun (n : Nat) => countI (n : Int)).sum
def needR (c a : Int) (L : List Nat) : Rm := ⟨sumK L, L.length, max c 0, max a 0, 0⟩
def lessR (a b : Rm) : Bool := decide (a.ch ≤ b.ch) && (decide (a.tx ≤ b.tx) && (decide (a.cl ≤ b.cl) && decide (a.au ≤ b.au)))
theorem sumK_take {L : List Nat} {i : Nat} (hi : i < L.length) : sumK (L.take (i + 1)) = sumK (L.take i) + countI ((L.getD i 0 : Nat) : Int) := by
  unfold sumK
  rw [List.take_add_one, List.getElem?_eq_getElem hi, List.map_append, List.sum_append]
  simp [List.getD_eq_getElem?_getD, hi]
theorem sumK_le {L : List Nat} {B : Nat} (h : ∀ x ∈ L, x ≤ B) (i : Nat) (hi : i ≤ L.length) : 0 ≤ sumK (L.take i) ∧ sumK (L.take i) ≤ (i : Int) * (B + 1) := by
  induction i with
  | zero => simp [sumK]
  | succ i ih =>
    obtain ⟨h1, h2⟩ := ih (by omega)
    rw [sumK_take (by omega)]
    have h3 : L.getD i 0 ≤ B := by rw [List.getD_eq_getElem?_getD, List.getElem?_eq_getElem (by omega)]; exact h _ (List.getElem_mem _)
    have h4 : 0 ≤ countI ((L.getD i 0 : Nat) : Int) ∧ countI ((L.getD i 0 : Nat) : Int) ≤ (B + 1 : Int) := by unfold countI; split <;> omega
    have : ((i + 1 : Nat) : Int) * (B + 1) = (i : Int) * (B + 1) + (B + 1) := by push_cast; rw [Int.add_mul]; omega
    omega
/-- Addresses, each once. -/
def freshL (l : List A32) : List A32 := l.foldl (fun a x => if x ∈ a then a else a ++ [x]) []
theorem freshL_take {l : List A32} {i : Nat} (hi : i < l.length) : freshL (l.take (i + 1)) = if adAt l i ∈ freshL (l.take i) then freshL (l.take i) else freshL (l.take i) ++ [adAt l i] := by
  unfold freshL
  rw [List.take_add_one, adAt_some hi, List.foldl_append]; rfl
theorem freshL_len (l : List A32) (i : Nat) (hi : i ≤ l.length) : (freshL (l.take i)).length ≤ i := by
  induction i with
  | zero => simp [freshL]
  | succ i ih =>
    have := ih (by omega)
    rw [freshL_take (by omega)]
    split
    · omega
    · rw [List.length_append]; simp; omega
def hvK (l : List UInt8) (k : Nat) : Nat := (l.take k).foldl (fun x b => x * 256 + b.toNat) 0
theorem hvK_succ {l : List UInt8} {k : Nat} (h : k < l.length) : hvK l (k + 1) = hvK l k * 256 + (l.getD k 0).toNat := by
  unfold hvK
  rw [List.take_add_one, List.getElem?_eq_getElem h, List.foldl_append, List.getD_eq_getElem?_getD, List.getElem?_eq_getElem h]; rfl
theorem hvK_lt (l : List UInt8) (k : Nat) : hvK l k < 256 ^ k := by
  induction k with
  | zero => simp [hvK]
  | succ k ih =>
    by_cases h : k < l.length
    · rw [hvK_succ h, Nat.pow_succ]
      have := (l.getD k 0).toNat_lt
      omega
    · have e : hvK l (k + 1) = hvK l k := by unfold hvK; rw [List.take_of_length_le (by omega), List.take_of_length_le (by omega)]
      rw [e, Nat.pow_succ]; omega
theorem hv_or {P : Program} {T : TypeId} {x y : Operand} {w : World} {l : List UInt8} {k : Nat} (hk : k < 6) (h : k < l.length) :
    Bo P .or T x y (.int .u64 (IntKind.u64.wrap ((hvK l k : Int) * 2 ^ min (8 : Int).toNat 64))) (.int .u64 ((l.getD k 0).toNat : Int)) w (.int .u64 (hvK l (k + 1) : Int)) := by
  have hb := (l.getD k 0).toNat_lt
  have hv := hvK_lt l k
  have h6 : 256 ^ k ≤ 256 ^ 5 := Nat.pow_le_pow_right (by decide) (by omega)
  have h5 : (256 : Nat) ^ 5 = 1099511627776 := by decide
  refine bo_int bo_or ?_
  refine (or_val (hvK l k) (l.getD k 0).toNat (by omega) (by omega)).trans ?_
  rw [hvK_succ h]; omega
def homeN (a : A32) (n : Int) : Int := if n < 1 then 0 else (hvK a.1 6 : Int) % n
theorem home_in (a : A32) {n : Nat} (h : 1 ≤ n) : ∃ k : Nat, homeN a (n : Int) = (k : Int) ∧ k < n := by
  refine ⟨hvK a.1 6 % n, ?_, Nat.mod_lt _ (by omega)⟩
  rw [homeN, if_neg (by omega)]; omega
abbrev cvZ : CV := (clpZ, .slice none 0 0, .slice none 0 0)
def imN (p : Pl) (mg tg cg : Nat) (tv cv mv ev : Value) : Im := ⟨p, mg, tg, cg, tv, cv, .slice none 0 0, 0, 0, mv, List.replicate p.s.toNat 0, ev, 0, List.replicate (plEn p).toNat enZ, List.replicate p.t.toNat tvZ, List.replicate p.c.toNat cvZ, []⟩
def imH (IT MT TT ET XT CT U8 g : Nat) (I : Im) : List Res := [cells g IT (imC I), cells I.mg MT [I.mv], .row U8 1 I.mv I.m.length (bys I.m), cells I.tg TT [I.ev, .int .i64 I.n], .row ET 34 I.ev I.e.length (I.e.flatMap enC), .row XT 35 I.tv I.T.length (I.T.flatMap tvC), .row CT 39 I.cv I.C.length (I.C.flatMap cvC)]
theorem imN_at {IT MT TT ET XT CT U8 g : Nat} {p : Pl} {mg tg cg : Nat} {tv cv mv ev : Value} {more : List Res} {w : World} (h : (packL (imH IT MT TT ET XT CT U8 g (imN p mg tg cg tv cv mv ev) ++ more)).at_ w) : ImAt IT MT TT g (imN p mg tg cg tv cv mv ev) w := by
  have k : ∀ r ∈ imH IT MT TT ET XT CT U8 g (imN p mg tg cg tv cv mv ev), r.at_ w := fun r hr => packL_at h (List.mem_append_left _ hr)
  refine ⟨k _ (by simp [imH]), k _ (by simp [imH]), Sl.row (k (.row U8 1 _ _ _) (by simp [imH])), k _ (by simp [imH]), Sl.row (k (.row ET 34 _ _ _) (by simp [imH])), Sl.row (k (.row XT 35 _ _ _) (by simp [imH])), fun x hx => ?_, Sl.row (k (.row CT 39 _ _ _) (by simp [imH])), fun x hx => ?_, Sl.nil w 100⟩
  · rw [List.eq_of_mem_replicate (show x ∈ List.replicate _ tvZ from hx)]; exact Sl.nil w 1
  · rw [List.eq_of_mem_replicate (show x ∈ List.replicate _ cvZ from hx)]; exact ⟨Sl.nil w 1, Sl.nil w 1⟩
theorem tvZ_cells : (⟨List.replicate 32 (Value.int .u8 0) ++ [.int .i64 0, .slice none 0 0, .int .i64 0]⟩ : Array Value) = ⟨tvC tvZ⟩ := by
  rw [show tvC tvZ = bys (List.replicate 32 0) ++ [.int .i64 0, .slice none 0 0, .int .i64 0] from rfl, bys_replicate]; rfl
theorem enZ_cells : (⟨List.replicate 32 (Value.int .u8 0) ++ [.int .i64 0, .int .i64 0]⟩ : Array Value) = ⟨enC enZ⟩ := by
  rw [show enC enZ = bys (List.replicate 32 0) ++ [.int .i64 0, .int .i64 0] from rfl, bys_replicate]; rfl
theorem cvZ_cells : (⟨List.replicate 32 (Value.int .u8 0) ++ [.int .i64 0, .int .i64 0, .bool false, .int .i64 0, .slice none 0 0, .string ⟨#[]⟩, .slice none 0 0]⟩ : Array Value) = ⟨cvC cvZ⟩ := by
  rw [show cvC cvZ = bys (List.replicate 32 0) ++ [.int .i64 0, .int .i64 0, .bool false, .int .i64 0, .slice none 0 0, .string ⟨#[]⟩, .slice none 0 0] from rfl, bys_replicate]; rfl
theorem planB_of {p : Pl} (h : planC p = 0) : planB p = true := by
  unfold planC at h
  split at h
  · assumption
  · cases h
theorem cvAt_in {l : List CV} {i : Nat} (h : i < l.length) : cvAt l i ∈ l := List.mem_of_getElem? (cvAt_some h)
theorem cv_texts (x : CV) : (cvC x)[38]? = some x.2.2 := clip_texts x.1 x.2.1 x.2.2
theorem imH_new {IT MT TT ET XT CT U8 g ns nt nc ne : Nat} {p : Pl} {mg tg cg : Nat} {tv cv mv ev : Value} (hns : p.s = (ns : Int)) (hnt : p.t = (nt : Int)) (hnc : p.c = (nc : Int)) (hne : plEn p = (ne : Int)) :
    imH IT MT TT ET XT CT U8 g (imN p mg tg cg tv cv mv ev) = [cells g IT (layC p ++ [.pointer (some ⟨mg, 0, none⟩), .pointer (some ⟨tg, 0, none⟩), .pointer (some ⟨cg, 0, none⟩), tv, cv, .slice none 0 0, .int .i64 0, .int .i64 0]), cells mg MT [mv], .row U8 1 mv ns (bys (List.replicate ns 0)), cells tg TT [ev, .int .i64 0], .row ET 34 ev ne ((List.replicate ne enZ).flatMap enC), .row XT 35 tv nt ((List.replicate nt tvZ).flatMap tvC), .row CT 39 cv nc ((List.replicate nc cvZ).flatMap cvC)] := by
  have h1 : p.s.toNat = ns := by omega
  have h2 : p.t.toNat = nt := by omega
  have h3 : p.c.toNat = nc := by omega
  have h4 : (plEn p).toNat = ne := by omega
  simp only [imH, imN, imC, h1, h2, h3, h4, List.length_replicate]
theorem fst_at {L : List (Value × List UInt8)} {i : Nat} (h : i < L.length) : (L.map Prod.fst)[i]? = some (L.getD i default).1 := by
  rw [List.getElem?_map, List.getD_eq_getElem?_getD, List.getElem?_eq_getElem h]; rfl
theorem getD_in {α : Type} [Inhabited α] {l : List α} {i : Nat} (h : i < l.length) : l.getD i default ∈ l := by
  rw [List.getD_eq_getElem?_getD, List.getElem?_eq_getElem h]; exact List.getElem_mem h
theorem cntZ_eq (n : Int) : cntZ n = countI n := rfl
theorem countI_in (n : Nat) : 0 ≤ countI (n : Int) ∧ countI (n : Int) ≤ (n : Int) := by unfold countI; split <;> omega
theorem sumK_takeL {L : List (Value × List UInt8)} {i : Nat} (h : i < L.length) : sumK ((L.map fun x => x.2.length).take (i + 1)) = sumK ((L.map fun x => x.2.length).take i) + countI (((L.getD i default).2.length : Nat) : Int) := by
  rw [sumK_take (by rw [List.length_map]; exact h)]
  have e : (L.map fun x => x.2.length).getD i 0 = (L.getD i default).2.length := by
    rw [List.getD_eq_getElem?_getD, List.getD_eq_getElem?_getD, List.getElem?_map, List.getElem?_eq_getElem h]; rfl
  rw [e]
def planQ (t b c a : Int) : Pl × Int := if t < 1 ∨ b < 1 ∨ 2048 < b ∨ c < 1 ∨ a < 1 then (⟨0, 0, 0, 0⟩, 1) else if 1048576 < t then (⟨0, 0, 0, 0⟩, 2) else (⟨t * ((b - 1) / 256 + 1), t, c, a⟩, 0)
theorem mul_in {t q : Int} (h1 : 1 ≤ t ∧ t ≤ 1048576) (h2 : 1 ≤ q ∧ q ≤ 8) : -9223372036854775808 ≤ t * q ∧ t * q ≤ 9223372036854775807 := by
  have h3 : 0 ≤ t * q := Int.mul_nonneg (by omega) (by omega)
  have h4 : t * q ≤ 1048576 * 8 := Int.mul_le_mul h1.2 h2.2 (by omega) (by omega)
  omega
theorem planB_not {p : Pl} : planB p = false ↔ ¬ ((1 ≤ p.s ∧ p.s ≤ 200) ∧ (1 ≤ p.t ∧ p.t ≤ 40) ∧ (1 ≤ p.c ∧ p.c ≤ 40) ∧ 1 ≤ p.a ∧ p.a ≤ 80) := by
  rw [← planB_iff]; simp
theorem planB_last {p : Pl} (h : (1 ≤ p.s ∧ p.s ≤ 200) ∧ (1 ≤ p.t ∧ p.t ≤ 40) ∧ (1 ≤ p.c ∧ p.c ≤ 40) ∧ 1 ≤ p.a) : planB p = decide (p.a ≤ 80) := by
  rw [Bool.eq_iff_iff, planB_iff, decide_eq_true_eq]
  exact ⟨fun q => q.2.2.2.2, fun q => ⟨h.1, h.2.1, h.2.2.1, h.2.2.2, q⟩⟩
theorem rd_eqK {P : Program} {n : Nat} {f : Fm} {w : World} {o : Oper} {v v' : Value} (h : Rd P n f o w v) (e : v = v') : Rd P n f o w v' := e ▸ h
theorem met_put {A : KL A32} {F : List A32} {x : A32} {v : Value} {k : Nat} (h : ∀ a : A32, kmG A a = if a ∈ F then some v else none) (a : A32) : kmG (kmPut A x v k) a = if a ∈ F ++ [x] then some v else none := by
  rw [kmG_put]
  by_cases q : a = x
  · rw [if_pos q, if_pos (by rw [q]; simp)]
  · rw [if_neg q, h a]; simp [q]
theorem filt_rep {α : Type} (n : Nat) (x : α) (p : α → Bool) (h : p x = true) : ((List.replicate n x).filter p).length = n := by
  rw [List.filter_eq_self.2 (fun a ha => by rw [List.eq_of_mem_replicate ha]; exact h), List.length_replicate]
theorem roomR_new {p : Pl} {mg tg cg : Nat} {tv cv mv ev : Value} (h : 0 ≤ p.s ∧ 0 ≤ p.t ∧ 0 ≤ p.c) : roomR (imN p mg tg cg tv cv mv ev) = ⟨p.s, p.t, p.c, p.a, p.s⟩ := by
  have h1 : slN (List.replicate p.s.toNat 0) 0 = p.s.toNat := slN_zero _
  have h2 : slN (List.replicate p.s.toNat 0) 2 = 0 := slN_zero2 _
  have h3 : freT (List.replicate p.t.toNat tvZ) (List.replicate p.t.toNat tvZ).length = p.t.toNat := by
    unfold freT; rw [List.take_length]; exact filt_rep _ _ _ (by decide)
  have h4 : freC (List.replicate p.c.toNat cvZ) (List.replicate p.c.toNat cvZ).length = p.c.toNat := by
    unfold freC; rw [List.take_length]; exact filt_rep _ _ _ (by decide)
  simp only [roomR, imN, h1, h2, h3, h4, List.length_nil]
  congr 1 <;> omega
theorem txF_new (n : Nat) (a : A32) : txF (List.replicate n tvZ) a = -1 := by
  refine txF_no fun j hj h => ?_
  have e : tvAt (List.replicate n tvZ) j = tvZ := List.eq_of_mem_replicate (tvAt_mem hj)
  rw [e] at h
  exact absurd h.1 (by decide)
theorem enAll_new (n : Nat) : ∀ x ∈ List.replicate n enZ, x.count = 0 := fun x hx => by rw [List.eq_of_mem_replicate hx]; rfl
theorem fresh600 : (freshL (adrsC (List.replicate 600 0))).length = 2 := by decide +kernel
theorem planQ_bad {t b c a : Int} (h : t < 1 ∨ b < 1 ∨ 2048 < b ∨ c < 1 ∨ a < 1) : planQ t b c a = (⟨0, 0, 0, 0⟩, 1) := if_pos h
theorem planQ_big {t b c a : Int} (h : ¬ (t < 1 ∨ b < 1 ∨ 2048 < b ∨ c < 1 ∨ a < 1)) (h2 : 1048576 < t) : planQ t b c a = (⟨0, 0, 0, 0⟩, 2) := by rw [planQ, if_neg h, if_pos h2]
theorem planQ_ok {t b c a : Int} (h : ¬ (t < 1 ∨ b < 1 ∨ 2048 < b ∨ c < 1 ∨ a < 1)) (h2 : ¬ 1048576 < t) : planQ t b c a = (⟨t * ((b - 1) / 256 + 1), t, c, a⟩, 0) := by rw [planQ, if_neg h, if_neg h2]
theorem sumK_rep (n k : Nat) : sumK (List.replicate n k) = (n : Int) * countI (k : Int) := by
  unfold sumK
  induction n with
  | zero => simp
  | succ n ih => rw [List.replicate_succ, List.map_cons, List.sum_cons, ih]; push_cast; rw [Int.add_mul]; omega
def rowsZ (U8 : Nat) (L : List (Value × List UInt8)) : List Res := L.map fun x => .row U8 1 x.1 x.2.length (bys x.2)
theorem rowsZ_sl {U8 : Nat} {L : List (Value × List UInt8)} {w : World} (h : (packL (rowsZ U8 L)).at_ w) : ∀ x ∈ L, Sl w x.1 1 x.2.length (bys x.2) := fun x hx => Sl.row (T := U8) (packL_at h (List.mem_map.2 ⟨x, hx, rfl⟩))
theorem Hp.rowsZ_in {w0 w : World} {S : List Nat} {H : List Res} {U8 : Nat} {L : List (Value × List UInt8)} {v : Value} {l : List UInt8} (h : Hp w0 S w (.row U8 1 v l.length (bys l) :: packL (rowsZ U8 L) :: H)) : Hp w0 S w (packL (rowsZ U8 (L ++ [(v, l)])) :: H) := by
  have e : rowsZ U8 (L ++ [(v, l)]) = rowsZ U8 L ++ [.row U8 1 v l.length (bys l)] := by simp [rowsZ]
  rw [e]
  exact h.packIn.packPerm List.perm_append_comm
theorem lens_rep {L : List (Value × List UInt8)} {n : Nat} (h : ∀ x ∈ L, x.2 = List.replicate n 0) : (L.map fun x => x.2.length) = List.replicate L.length n := by
  induction L with
  | nil => rfl
  | cons a L ih =>
    rw [List.map_cons, ih (fun x hx => h x (List.mem_cons_of_mem _ hx)), h a List.mem_cons_self, List.length_replicate]; rfl
theorem fits_yes {L : List (Value × List UInt8)} {n : Nat} {t b c a : Int} (h : ∀ x ∈ L, x.2 = List.replicate n 0) (hb : b = (n : Int)) (hL : (L.length : Int) = t) (h1 : 1 ≤ b) (hc : 1 ≤ c) (ha : 1 ≤ a) : lessR (needR c a (L.map fun x => x.2.length)) ⟨t * ((b - 1) / 256 + 1), t, c, a, t * ((b - 1) / 256 + 1)⟩ = true := by
  rw [lens_rep h]
  unfold lessR needR
  have e : sumK (List.replicate L.length n) = t * ((b - 1) / 256 + 1) := by rw [sumK_rep, hL, ← hb, countI, if_neg (by omega)]
  simp only [e, List.length_replicate, Bool.and_eq_true, decide_eq_true_eq]
  exact ⟨Int.le_refl _, by omega, by omega, by omega⟩
theorem fits_no {L : List (Value × List UInt8)} {t b c a s : Int} (hc : 1 ≤ c) : lessR (needR (c + 1) a (L.map fun x => x.2.length)) ⟨s, t, c, a, b⟩ = false := by
  unfold lessR needR
  simp only [Bool.and_eq_false_iff, decide_eq_false_iff_not]
  exact .inr (.inr (.inl (by omega)))
end Go.Mo
