/- Records of what was done: their bytes, their sums, chains of them: plain laws. -/
import Derived.Test.YtpagpmioopaciaaGreatPStr
import Derived.Test.YtpagpmioopaciaaGreatPDigS
set_option linter.unusedVariables false
set_option linter.unusedSimpArgs false
namespace Go.Mo
open Go.RowKit Go.Lib
abbrev A32 := { x : List UInt8 // x.length = 32 }
def a32Z : A32 := ⟨List.replicate 32 0, List.length_replicate⟩
theorem a32_len (x : A32) : x.1.length = 32 := x.2
theorem a32_ext {a b : A32} (h : a.1 = b.1) : a = b := Subtype.ext h
structure Rec where
  kind : Int
  time : Int
  actor : ByteArray
  clip : A32
  reason : ByteArray
  prev : A32
  sum : A32
def recF (r : Rec) : List FV := [.i .i64 r.kind, .i .i64 r.time, .s r.actor, .a r.clip.1, .s r.reason, .a r.prev.1, .a r.sum.1]
abbrev recT : List FT := [.i .i64, .i .i64, .s, .a 32, .s, .a 32, .a 32]
theorem recF_ok (r : Rec) : fvsOk (recF r) recT := ⟨rfl, rfl, trivial, r.clip.2, trivial, r.prev.2, r.sum.2, trivial⟩
def recC (r : Rec) : List Value := fvC (recF r)
def recHd (r : Rec) : List Value := [.int .i64 r.kind, .int .i64 r.time, .string r.actor]
theorem recC_eq (r : Rec) : recC r = recHd r ++ (bys r.clip.1 ++ ([.string r.reason] ++ (bys r.prev.1 ++ bys r.sum.1))) := by
  simp [recC, fvC, recF, recHd, FV.cells]
theorem clip_len (r : Rec) : (bys r.clip.1).length = 32 := by rw [bys_length]; exact r.clip.2
theorem prev_len (r : Rec) : (bys r.prev.1).length = 32 := by rw [bys_length]; exact r.prev.2
theorem sum_len (r : Rec) : (bys r.sum.1).length = 32 := by rw [bys_length]; exact r.sum.2
theorem recC_len (r : Rec) : (recC r).length = 100 := by
  have h1 := clip_len r
  have h2 := prev_len r
  have h3 := sum_len r
  simp only [recC_eq, recHd, List.length_append, List.length_cons, List.length_nil]
  omega
theorem recC_one (r : Rec) : ∀ u ∈ recC r, u.oneCell' = true := by
  intro u hu
  rw [recC_eq] at hu
  simp only [recHd, List.mem_append, List.mem_cons, List.not_mem_nil, or_false] at hu
  rcases hu with (rfl | rfl | rfl) | hu | rfl | hu | hu
  · rfl
  · rfl
  · rfl
  · exact bys_one _ u hu
  · rfl
  · exact bys_one _ u hu
  · exact bys_one _ u hu
theorem rec_kind (r : Rec) : (recC r)[0]? = some (.int .i64 r.kind) := by rw [recC_eq]; rfl
theorem rec_time (r : Rec) : (recC r)[1]? = some (.int .i64 r.time) := by rw [recC_eq]; rfl
theorem rec_actor (r : Rec) : (recC r)[2]? = some (.string r.actor) := by rw [recC_eq]; rfl
theorem rec_clip {r : Rec} {j : Nat} {u : Value} (h : (bys r.clip.1)[j]? = some u) : (recC r)[3 + j]? = some u := by
  have hj := (List.getElem?_eq_some_iff.1 h).1
  rw [recC_eq, List.getElem?_append_right (by simp [recHd]), show 3 + j - (recHd r).length = j by simp [recHd], List.getElem?_append_left hj]
  exact h
theorem rec_reason (r : Rec) : (recC r)[35]? = some (.string r.reason) := by
  have h1 := clip_len r
  rw [recC_eq, List.getElem?_append_right (by simp [recHd]), List.getElem?_append_right (by simp [recHd]; omega), show 35 - (recHd r).length - (bys r.clip.1).length = 0 by simp [recHd]; omega]
  rfl
theorem rec_prev {r : Rec} {j : Nat} {u : Value} (h : (bys r.prev.1)[j]? = some u) : (recC r)[36 + j]? = some u := by
  have hj := (List.getElem?_eq_some_iff.1 h).1
  have h1 := clip_len r
  rw [recC_eq, List.getElem?_append_right (by simp [recHd]; omega), List.getElem?_append_right (by simp [recHd]; omega), List.getElem?_append_right (by simp [recHd]; omega)]
  rw [show 36 + j - (recHd r).length - (bys r.clip.1).length - ([Value.string r.reason] : List Value).length = j by simp [recHd]; omega, List.getElem?_append_left hj]
  exact h
theorem rec_sum {r : Rec} {j : Nat} {u : Value} (h : (bys r.sum.1)[j]? = some u) : (recC r)[68 + j]? = some u := by
  have h1 := clip_len r
  have h2 := prev_len r
  rw [recC_eq, List.getElem?_append_right (by simp [recHd]; omega), List.getElem?_append_right (by simp [recHd]; omega), List.getElem?_append_right (by simp [recHd]; omega), List.getElem?_append_right (by simp [recHd]; omega)]
  rw [show 68 + j - (recHd r).length - (bys r.clip.1).length - ([Value.string r.reason] : List Value).length - (bys r.prev.1).length = j by simp [recHd]; omega]
  exact h
theorem rec_byteClip (r : Rec) {i : Nat} (h : i < 32) : (recC r)[0 + 3 + i * 1]? = some (.int .u8 (((r.clip.1).getD i 0).toNat : Int)) := by
  rw [Nat.mul_one]; exact rec_clip (bys_getD _ _ (by rw [r.clip.2]; exact h))
theorem rec_bytePrev (r : Rec) {i : Nat} (h : i < 32) : (recC r)[0 + 36 + i * 1]? = some (.int .u8 (((r.prev.1).getD i 0).toNat : Int)) := by
  rw [Nat.mul_one]; exact rec_prev (bys_getD _ _ (by rw [r.prev.2]; exact h))
theorem rec_byteSum (r : Rec) {i : Nat} (h : i < 32) : (recC r)[0 + 68 + i * 1]? = some (.int .u8 (((r.sum.1).getD i 0).toNat : Int)) := by
  rw [Nat.mul_one]; exact rec_sum (bys_getD _ _ (by rw [r.sum.2]; exact h))
/-- The parts that are slices of a record's memory. -/
theorem rec_clipC (r : Rec) : bys r.clip.1 = ((recC r).drop 3).take (32 * 1) := by
  rw [recC_eq, List.drop_left' (by rfl), List.take_left' (clip_len r)]
theorem rec_prevC (r : Rec) : bys r.prev.1 = ((recC r).drop 36).take (32 * 1) := by
  have h1 := clip_len r
  rw [recC_eq, ← List.append_assoc, ← List.append_assoc, List.drop_left' (by simp [recHd]; omega), List.take_left' (prev_len r)]
theorem rec_sumC (r : Rec) : bys r.sum.1 = ((recC r).drop 68).take (32 * 1) := by
  have h1 := clip_len r
  have h2 := prev_len r
  rw [recC_eq, ← List.append_assoc, ← List.append_assoc, ← List.append_assoc, List.drop_left' (by simp [recHd]; omega), List.take_of_length_le (by rw [sum_len]; decide)]
theorem splice_mid {α : Type} (A B C V : List α) (k : Nat) (hk : A.length = k) (hv : V.length = B.length) : splice (A ++ (B ++ C)) k V = A ++ (V ++ C) := by
  subst hk
  apply List.ext_getElem?
  intro j
  rw [splice_get _ _ _ (by simp [hv])]
  by_cases h1 : j < A.length
  · rw [if_pos h1, List.getElem?_append_left h1, List.getElem?_append_left h1]
  · have eL : (A ++ (B ++ C))[j]? = (B ++ C)[j - A.length]? := List.getElem?_append_right (by omega)
    have eR : (A ++ (V ++ C))[j]? = (V ++ C)[j - A.length]? := List.getElem?_append_right (by omega)
    rw [if_neg h1, eL, eR]
    by_cases h2 : j < A.length + V.length
    · rw [if_pos h2, List.getElem?_append_left (by omega)]
    · rw [if_neg h2, List.getElem?_append_right (show B.length ≤ j - A.length by omega), List.getElem?_append_right (show V.length ≤ j - A.length by omega), hv]
theorem rec_setClip (r : Rec) (a : A32) : splice (recC r) 3 (bys a.1) = recC { r with clip := a } := by
  rw [recC_eq, recC_eq]
  exact splice_mid _ _ _ _ 3 rfl (by rw [bys_length, bys_length, a.2, r.clip.2])
theorem rec_setPrev (r : Rec) (a : A32) : splice (recC r) 36 (bys a.1) = recC { r with prev := a } := by
  have h1 := clip_len r
  rw [recC_eq, recC_eq, ← List.append_assoc, ← List.append_assoc, splice_mid _ _ _ _ 36 (by simp [recHd]; omega) (by rw [bys_length, bys_length, a.2, r.prev.2])]
  simp only [recHd, List.append_assoc]
theorem rec_setSum (r : Rec) (a : A32) : splice (recC r) 68 (bys a.1) = recC { r with sum := a } := by
  have h1 := clip_len r
  have h2 := prev_len r
  have e := splice_mid (recHd r ++ bys r.clip.1 ++ [.string r.reason] ++ bys r.prev.1) (bys r.sum.1) [] (bys a.1) 68 (by simp [recHd]; omega) (by rw [bys_length, bys_length, a.2, r.sum.2])
  rw [recC_eq, recC_eq]
  simp only [List.append_nil, List.append_assoc, recHd] at e ⊢
  exact e
theorem List.take_succ_eq_append_getD {l : List UInt8} {i : Nat} (h : i < l.length) : l.take i ++ [l.getD i 0] = l.take (i + 1) := by
  rw [List.take_succ_eq_append_getElem h, List.getD_eq_getElem?_getD, List.getElem?_eq_getElem h]; rfl
def recZ : Rec := ⟨0, 0, ⟨#[]⟩, a32Z, ⟨#[]⟩, a32Z, a32Z⟩
instance : Inhabited Rec := ⟨recZ⟩
def recEq (a b : Rec) : Bool := fvsEq (recF a) (recF b)
theorem recEq_iff {a b : Rec} : recEq a b = true ↔ a = b := by
  constructor
  · intro h
    simp only [recEq, recF, fvsEq, fvEq, Bool.and_eq_true, decide_eq_true_eq] at h
    obtain ⟨h1, h2, h3, h4, h5, h6, h7, _⟩ := h
    cases a; cases b
    simp only at h1 h2 h3 h4 h5 h6 h7
    rw [h1, h2, h3, a32_ext h4, h5, a32_ext h6, a32_ext h7]
  · rintro rfl
    simp [recEq, recF, fvsEq, fvEq]
theorem recEq_no {a b : Rec} (h : ¬ a = b) : recEq a b = false := by
  cases e : recEq a b
  · rfl
  · exact absurd (recEq_iff.1 e) h
theorem recEq_dec (a b : Rec) [Decidable (a = b)] : recEq a b = decide (a = b) := by
  by_cases h : a = b
  · rw [decide_eq_true h, recEq_iff.2 h]
  · rw [decide_eq_false h, recEq_no h]
instance : DecidableEq Rec := fun a b => if h : recEq a b = true then isTrue (recEq_iff.1 h) else isFalse fun e => h (recEq_iff.2 e)
theorem bo_rec {P : Program} {T : TypeId} {a b : Rec} {w : World} {x y : Operand} (hT : FlatAt P T recT) : Bo P .eql T x y (.agg ⟨recC a⟩) (.agg ⟨recC b⟩) w (.bool (decide (a = b))) ∧ Bo P .neq T x y (.agg ⟨recC a⟩) (.agg ⟨recC b⟩) w (.bool (!decide (a = b))) := by
  have h := bo_flat (x := x) (y := y) (w := w) hT (recF_ok a) (recF_ok b)
  have e : fvsEq (recF a) (recF b) = decide (a = b) := recEq_dec a b
  rw [e] at h
  exact h
def checkR (r : Rec) : Int := if r.kind < 1 ∨ 5 < r.kind then 1 else if r.time < 0 ∨ 1099511627776 < r.time then 2 else if 31 < r.reason.size then 15 else nameC r.actor
theorem checkR_1 {r : Rec} (h : r.kind < 1 ∨ 5 < r.kind) : checkR r = 1 := by rw [checkR, if_pos h]
theorem checkR_2 {r : Rec} (h1 : ¬ (r.kind < 1 ∨ 5 < r.kind)) (h : r.time < 0 ∨ 1099511627776 < r.time) : checkR r = 2 := by rw [checkR, if_neg h1, if_pos h]
theorem checkR_3 {r : Rec} (h1 : ¬ (r.kind < 1 ∨ 5 < r.kind)) (h2 : ¬ (r.time < 0 ∨ 1099511627776 < r.time)) (h : 31 < r.reason.size) : checkR r = 15 := by rw [checkR, if_neg h1, if_neg h2, if_pos h]
theorem checkR_4 {r : Rec} (h1 : ¬ (r.kind < 1 ∨ 5 < r.kind)) (h2 : ¬ (r.time < 0 ∨ 1099511627776 < r.time)) (h : ¬ 31 < r.reason.size) : checkR r = nameC r.actor := by rw [checkR, if_neg h1, if_neg h2, if_neg h]
theorem checkR_zero {r : Rec} : checkR r = 0 ↔ (1 ≤ r.kind ∧ r.kind ≤ 5) ∧ (0 ≤ r.time ∧ r.time ≤ 1099511627776) ∧ r.reason.size ≤ 31 ∧ nameC r.actor = 0 := by
  unfold checkR
  by_cases h1 : r.kind < 1 ∨ 5 < r.kind
  · rw [if_pos h1]; constructor <;> intro h <;> omega
  rw [if_neg h1]
  by_cases h2 : r.time < 0 ∨ 1099511627776 < r.time
  · rw [if_pos h2]; constructor <;> intro h <;> omega
  rw [if_neg h2]
  by_cases h3 : 31 < r.reason.size
  · rw [if_pos h3]; constructor <;> intro h <;> omega
  rw [if_neg h3]
  constructor
  · intro h; exact ⟨by omega, by omega, by omega, h⟩
  · intro h; exact h.2.2.2
def kB (k : Int) : UInt8 := UInt8.ofNat (k % 256).toNat
theorem kB_wrap (k : Int) : IntKind.u8.wrap k = ((kB k).toNat : Int) := by
  have h : IntKind.u8.wrap k = IntKind.u8.wrap ((k % 256).toNat : Int) := by
    have e : IntKind.u8.signed = false := rfl
    have e2 : (2 ^ IntKind.u8.bits : Int) = 256 := rfl
    simp only [IntKind.wrap, e, e2, Bool.false_and, Bool.false_eq_true, if_false]
    omega
  rw [h, kB, u8_wrap]
def saidR (r : Rec) : List UInt8 := [65, 85, 68, 84] ++ ([kB r.kind] ++ (putL (u64N r.time) 6 ++ (padL r.actor.data.toList 16 ++ (padL r.reason.data.toList 32 ++ (r.clip.1 ++ r.prev.1)))))
theorem pad_le (s : List UInt8) (k : Int) : (padL s k).length ≤ k.toNat := by
  cases h : padOk s.length k
  · simp [padL, h]
  · rw [padL_length s _ h]; omega
theorem saidR_le (r : Rec) : (saidR r).length ≤ 123 := by
  have h1 := pad_le r.actor.data.toList 16
  have h2 := pad_le r.reason.data.toList 32
  have h3 := r.clip.2
  have h4 := r.prev.2
  simp only [saidR, List.length_append, List.length_cons, List.length_nil, putL_length, h3, h4]
  omega
theorem reason_pad {s : ByteArray} (h : s.size ≤ 31) : padOk s.data.toList.length 32 = true := by
  have e : s.data.toList.length = s.size := rfl
  rw [e]
  simp only [padOk, decide_eq_true_eq]
  omega
theorem check_pads {r : Rec} (h : checkR r = 0) : (padL r.actor.data.toList 16).length = 16 ∧ (padL r.reason.data.toList 32).length = 32 := by
  have h1 := checkR_zero.1 h
  exact ⟨padL_length _ _ (name_pad (nameC_le h1.2.2.2).2), padL_length _ _ (reason_pad h1.2.2.1)⟩
theorem saidR_length {r : Rec} (h : checkR r = 0) : (saidR r).length = 123 := by
  have h1 := check_pads h
  simp only [saidR, List.length_append, List.length_cons, List.length_nil, putL_length, r.clip.2, r.prev.2, h1.1, h1.2]
def sumR (r : Rec) : A32 := ⟨sumB (saidR r), sumB_length _⟩
def bytesR (r : Rec) : List UInt8 := saidR r ++ r.sum.1
theorem bytesR_length {r : Rec} (h : checkR r = 0) : (bytesR r).length = 155 := by rw [bytesR, List.length_append, saidR_length h, r.sum.2]
theorem bytesR_le (r : Rec) : (bytesR r).length ≤ 155 := by have := saidR_le r; rw [bytesR, List.length_append, r.sum.2]; omega
def grA (l : List UInt8) : List UInt8 := (l.drop 11).take 16
def grQ (l : List UInt8) : List UInt8 := (l.drop 27).take 32
def cut32 (l : List UInt8) (k : Nat) : List UInt8 := (l.drop k).take 32 ++ List.replicate (32 - ((l.drop k).take 32).length) 0
theorem cut32_length (l : List UInt8) (k : Nat) : (cut32 l k).length = 32 := by simp [cut32]; omega
theorem cut32_eq {l : List UInt8} {k : Nat} (h : k + 32 ≤ l.length) : cut32 l k = (l.drop k).take 32 := by
  have : ((l.drop k).take 32).length = 32 := by rw [List.length_take, List.length_drop]; omega
  rw [cut32, this]; simp
def gr (l : List UInt8) : Rec := ⟨(getL ((l.drop 4).take 1) : Int), (getL ((l.drop 5).take 6) : Int), ⟨(unpadL (grA l)).toArray⟩, ⟨cut32 l 59, cut32_length _ _⟩, ⟨(unpadL (grQ l)).toArray⟩, ⟨cut32 l 91, cut32_length _ _⟩, ⟨cut32 l 123, cut32_length _ _⟩⟩
def grB (l : List UInt8) : Bool := decide (l.take 4 = [65, 85, 68, 84]) && (unpadOk (grA l) && (unpadOk (grQ l) && decide (checkR (gr l) = 0)))
theorem grB_iff {l : List UInt8} : grB l = true ↔ l.take 4 = [65, 85, 68, 84] ∧ unpadOk (grA l) = true ∧ unpadOk (grQ l) = true ∧ checkR (gr l) = 0 := by simp [grB]
theorem grB_no {l : List UInt8} (h : ¬ (l.take 4 = [65, 85, 68, 84] ∧ unpadOk (grA l) = true ∧ unpadOk (grQ l) = true ∧ checkR (gr l) = 0)) : grB l = false := by
  cases e : grB l
  · rfl
  · exact absurd (grB_iff.1 e) h
theorem three_of (a b : Bool) : (a = true ∧ b = true) ∨ (a = true ∧ b = false) ∨ a = false := by cases a <;> cases b <;> simp
theorem cur_badL (l : List UInt8) (k : Int) : curL true l k = l := (cur_no (curOk_true l k)).2
theorem cur_badK (l : List UInt8) (k : Int) : curOk true l k = false := rfl
theorem cur_badT (l : List UInt8) (k : Int) : curTextBad true l k = true := rfl
theorem cur_badO (l : List UInt8) : curOut true l 32 = List.replicate 32 0 := (cur_no (curOk_true l 32)).1
theorem Sl.asLen {w : World} {v : Value} {m n : Nat} {l : List UInt8} (h : Sl w v 1 m (bys l)) (e : n = m) : Sl w v 1 n (bys l) := e ▸ h
def getR (l : List UInt8) : Rec := if grB l then gr l else recZ
def getE (l : List UInt8) : Int := if grB l then 0 else 5
theorem get_yes {l : List UInt8} (h : grB l = true) : getR l = gr l ∧ getE l = 0 := by simp [getR, getE, h]
theorem get_no {l : List UInt8} (h : grB l = false) : getR l = recZ ∧ getE l = 5 := by simp [getR, getE, h]
theorem u8_get (c : UInt8) : getL [c] = c.toNat := by simp [getL]
theorem gr_parts {r : Rec} (h : checkR r = 0) (S : List UInt8) : (bytesR r ++ S).take 4 = [65, 85, 68, 84] ∧ ((bytesR r ++ S).drop 4).take 1 = [kB r.kind] ∧ ((bytesR r ++ S).drop 5).take 6 = putL (u64N r.time) 6 ∧ grA (bytesR r ++ S) = padL r.actor.data.toList 16 ∧ grQ (bytesR r ++ S) = padL r.reason.data.toList 32 ∧
    cut32 (bytesR r ++ S) 59 = r.clip.1 ∧ cut32 (bytesR r ++ S) 91 = r.prev.1 ∧ cut32 (bytesR r ++ S) 123 = r.sum.1 := by
  obtain ⟨p1, p2⟩ := check_pads h
  have e : bytesR r ++ S = [65, 85, 68, 84] ++ ([kB r.kind] ++ (putL (u64N r.time) 6 ++ (padL r.actor.data.toList 16 ++ (padL r.reason.data.toList 32 ++ (r.clip.1 ++ (r.prev.1 ++ (r.sum.1 ++ S))))))) := by simp only [bytesR, saidR, List.append_assoc]
  have d4 : (bytesR r ++ S).drop 4 = [kB r.kind] ++ (putL (u64N r.time) 6 ++ (padL r.actor.data.toList 16 ++ (padL r.reason.data.toList 32 ++ (r.clip.1 ++ (r.prev.1 ++ (r.sum.1 ++ S)))))) := by rw [e]; rfl
  have d5 : (bytesR r ++ S).drop 5 = putL (u64N r.time) 6 ++ (padL r.actor.data.toList 16 ++ (padL r.reason.data.toList 32 ++ (r.clip.1 ++ (r.prev.1 ++ (r.sum.1 ++ S))))) := by rw [e]; rfl
  have nx : ∀ {a b : Nat} {x y : List UInt8}, (bytesR r ++ S).drop a = x ++ y → x.length = b → (bytesR r ++ S).drop (a + b) = y := fun h1 h2 => by rw [← List.drop_drop, h1, List.drop_left' h2]
  have d11 := nx d5 (putL_length 6 _)
  have d27 := nx d11 p1
  have d59 := nx d27 p2
  have d91 := nx d59 r.clip.2
  have d123 := nx d91 r.prev.2
  have ct : ∀ {k : Nat} {x y : List UInt8}, (bytesR r ++ S).drop k = x ++ y → x.length = 32 → cut32 (bytesR r ++ S) k = x := fun h1 h2 => by rw [cut32, h1, List.take_left' h2, h2]; simp
  refine ⟨by rw [e]; rfl, by rw [d4]; rfl, ?_, ?_, ?_, ct d59 r.clip.2, ct d91 r.prev.2, ct d123 r.sum.2⟩
  · rw [d5, List.take_left' (putL_length 6 _)]
  · rw [grA, d11, List.take_left' p1]
  · rw [grQ, d27, List.take_left' p2]
theorem gr_back {r : Rec} (h : checkR r = 0) (S : List UInt8) : grB (bytesR r ++ S) = true ∧ gr (bytesR r ++ S) = r := by
  obtain ⟨h1, h2, h3, h4, h5, h6, h7, h8⟩ := gr_parts h S
  have hc := checkR_zero.1 h
  have u1 := unpad_pad r.actor.data.toList 16 (name_pad (nameC_le hc.2.2.2).2)
  have u2 := unpad_pad r.reason.data.toList 32 (reason_pad hc.2.2.1)
  have e : gr (bytesR r ++ S) = r := by
    unfold gr
    have k1 : (getL [kB r.kind] : Int) = r.kind := by
      rw [u8_get, kB]
      have : (UInt8.ofNat (r.kind % 256).toNat).toNat = (r.kind % 256).toNat % 256 := UInt8.toNat_ofNat'
      rw [this]; omega
    have k2 : (getL (putL (u64N r.time) 6) : Int) = r.time := by
      rw [u64N_pos (by omega) (by omega), get_put (by have : (256 : Nat) ^ 6 = 281474976710656 := by decide
                                                      omega)]
      omega
    have a1 : (⟨(unpadL (grA (bytesR r ++ S))).toArray⟩ : ByteArray) = r.actor := by
      rw [h4]; exact (congrArg (fun z : List UInt8 => (⟨z.toArray⟩ : ByteArray)) u1.1).trans (ba_eq r.actor)
    have a2 : (⟨(unpadL (grQ (bytesR r ++ S))).toArray⟩ : ByteArray) = r.reason := by
      rw [h5]; exact (congrArg (fun z : List UInt8 => (⟨z.toArray⟩ : ByteArray)) u2.1).trans (ba_eq r.reason)
    have c1 : (⟨cut32 (bytesR r ++ S) 59, cut32_length _ _⟩ : A32) = r.clip := a32_ext h6
    have c2 : (⟨cut32 (bytesR r ++ S) 91, cut32_length _ _⟩ : A32) = r.prev := a32_ext h7
    have c3 : (⟨cut32 (bytesR r ++ S) 123, cut32_length _ _⟩ : A32) = r.sum := a32_ext h8
    rw [h2, h3, k1, k2, a1, a2, c1, c2, c3]
  exact ⟨grB_iff.2 ⟨h1, by rw [h4]; exact u1.2, by rw [h5]; exact u2.2, by rw [e]; exact h⟩, e⟩
theorem said_inj {a b : Rec} (ha : checkR a = 0) (hb : checkR b = 0) (h : saidR a = saidR b) : a.kind = b.kind ∧ a.time = b.time ∧ a.actor = b.actor ∧ a.clip = b.clip ∧ a.reason = b.reason ∧ a.prev = b.prev := by
  have e : bytesR { a with sum := b.sum } = bytesR b := by
    show saidR { a with sum := b.sum } ++ b.sum.1 = _
    rw [show saidR { a with sum := b.sum } = saidR a from rfl, h]; rfl
  have h1 := (gr_back (r := { a with sum := b.sum }) ha []).2
  have h2 := (gr_back hb []).2
  rw [e, h2] at h1
  rw [h1]
  exact ⟨rfl, rfl, rfl, rfl, rfl, rfl⟩
def secRec (r : Rec) : List UInt8 := if checkR r = 0 then secL (bytesR r) else List.replicate 256 0
theorem secRec_yes {r : Rec} (h : checkR r = 0) : secRec r = secL (bytesR r) := by rw [secRec, if_pos h]
def ofB' (x : List UInt8) : Bool := grB (x.take 155) && (holdsL x && zeroL ((x.drop 155).take 97))
theorem ofB_iff {x : List UInt8} : ofB' x = true ↔ grB (x.take 155) = true ∧ holdsL x = true ∧ zeroL ((x.drop 155).take 97) = true := by simp [ofB']
theorem of_back {r : Rec} (h : checkR r = 0) : ofB' (secRec r) = true ∧ gr ((secRec r).take 155) = r := by
  have hl := bytesR_length h
  rw [secRec_yes h]
  have e0 := secL_eq (b := bytesR r) (by omega)
  have e1 : (secL (bytesR r)).take 252 = padN 252 (bytesR r) := by rw [e0]; exact long_take (by omega)
  have e2 : (secL (bytesR r)).take 155 = bytesR r := by
    have : (secL (bytesR r)).take 155 = ((secL (bytesR r)).take 252).take 155 := by rw [List.take_take]; rfl
    rw [this, e1, padN, List.take_left' hl]
  have e3 : ((secL (bytesR r)).drop 155).take 97 = List.replicate 97 0 := by
    have : ((secL (bytesR r)).drop 155).take 97 = ((secL (bytesR r)).take 252).drop 155 := by rw [List.drop_take]
    rw [this, e1, padN, List.drop_left' hl, hl]
  have hb := gr_back h []
  rw [List.append_nil] at hb
  refine ⟨ofB_iff.2 ⟨by rw [e2]; exact hb.1, by rw [e0]; exact holds_long (by omega), by rw [e3]; exact zeroL_replicate _⟩, by rw [e2]; exact hb.2⟩
theorem rec_fill (k t : Int) (a q : ByteArray) : Instr.fill (([(0, 1), (1, 1), (2, 1), (3, 32), (35, 1), (36, 32), (68, 32)] : List (Nat × Nat)).toArray[·]?) (⟨recC recZ⟩ : Array Value) [(0, .int .i64 k), (1, .int .i64 t), (2, .string a), (4, .string q)] = some ⟨recC ⟨k, t, a, a32Z, q, a32Z, a32Z⟩⟩ := by
  refine fill_more (L' := recC ⟨k, 0, ⟨#[]⟩, a32Z, ⟨#[]⟩, a32Z, a32Z⟩) 0 1 rfl rfl rfl (by rw [recC_len]; decide) (by rw [recC_eq, recC_eq]; rfl) ?_
  refine fill_more (L' := recC ⟨k, t, ⟨#[]⟩, a32Z, ⟨#[]⟩, a32Z, a32Z⟩) 1 1 rfl rfl rfl (by rw [recC_len]; decide) (by rw [recC_eq, recC_eq]; rfl) ?_
  refine fill_more (L' := recC ⟨k, t, a, a32Z, ⟨#[]⟩, a32Z, a32Z⟩) 2 1 rfl rfl rfl (by rw [recC_len]; decide) (by rw [recC_eq, recC_eq]; rfl) ?_
  refine fill_more (L' := recC ⟨k, t, a, a32Z, q, a32Z, a32Z⟩) 35 1 rfl rfl rfl (by rw [recC_len]; decide) (by rw [recC_eq, recC_eq]; rfl) ?_
  exact fill_done rfl
def putB (r : Rec) : List UInt8 := if checkR r = 0 then bytesR r else []
theorem putB_yes {r : Rec} (h : checkR r = 0) : putB r = bytesR r := by rw [putB, if_pos h]
theorem putB_no {r : Rec} (h : ¬ checkR r = 0) : putB r = [] := by rw [putB, if_neg h]
def ofR (x : List UInt8) : Rec := if ofB' x then gr (x.take 155) else recZ
def ofE (x : List UInt8) : Int := if x = List.replicate 256 0 ∨ ofB' x = true then 0 else 5
theorem of_yes {x : List UInt8} (h : ofB' x = true) : ofR x = gr (x.take 155) ∧ ofE x = 0 := ⟨by rw [ofR, if_pos h], by rw [ofE, if_pos (.inr h)]⟩
def recAt (l : List Rec) (i : Nat) : Rec := l.getD i default
theorem recAt_some {l : List Rec} {i : Nat} (hi : i < l.length) : l[i]? = some (recAt l i) := by rw [recAt, List.getD_eq_getElem?_getD, List.getElem?_eq_getElem hi]; rfl
theorem recAt_mem {l : List Rec} {i : Nat} (hi : i < l.length) : recAt l i ∈ l := List.mem_of_getElem? (recAt_some hi)
theorem recAt_take {l : List Rec} {i k : Nat} (h : i < k) : recAt (l.take k) i = recAt l i := by
  rw [recAt, List.getD_eq_getElem?_getD, List.getElem?_take, if_pos h, recAt, List.getD_eq_getElem?_getD]
theorem recAt_append {l m : List Rec} {i : Nat} (h : i < l.length) : recAt (l ++ m) i = recAt l i := by
  rw [recAt, List.getD_eq_getElem?_getD, List.getElem?_append_left h, recAt, List.getD_eq_getElem?_getD]
theorem Sl.recE {w : World} {g b m m' c : Nat} {l : List Rec} (h : Sl w (.slice (some ⟨g, b, none⟩) m c) 100 m' (l.flatMap recC)) (i : Nat) (hi : i < l.length) {j : Nat} {u : Value} (hj : (recC (recAt l i))[j]? = some u) : w.cell? ⟨g, b + i * 100 + j, none⟩ = some u :=
  h.elem recC_len i j (by have := (List.getElem?_eq_some_iff.1 hj).1; rwa [recC_len] at this) (recAt_some hi) hj
theorem flat_push {α β : Type} (e : α → List β) (l : List α) (x : α) : l.flatMap e ++ e x = (l ++ [x]).flatMap e := by simp
theorem Sl.recs {w : World} {A : Option Addr} {n c : Nat} {l : List Rec} (h : Sl w (.slice A n c) 100 n (l.flatMap recC)) : l.length = n := by
  have := h.len
  rw [flat_length recC_len] at this
  omega
theorem row_n {w : World} {T n : Nat} {v : Value} {l : List UInt8} (h : (Res.row T 1 v n (bys l)).at_ w) : n = l.length := by
  have := row_len h
  rw [bys_length] at this
  omega
def headR (l : List Rec) : A32 := if l.length = 0 then a32Z else (recAt l (l.length - 1)).sum
theorem headR_nil {l : List Rec} (h : l.length = 0) : headR l = a32Z := by rw [headR, if_pos h]
theorem headR_last {l : List Rec} (h : ¬ l.length = 0) : headR l = (recAt l (l.length - 1)).sum := by rw [headR, if_neg h]
theorem headR_take {l : List Rec} {i : Nat} (h0 : 0 < i) (h : i ≤ l.length) : headR (l.take i) = (recAt l (i - 1)).sum := by
  have e : (l.take i).length = i := by rw [List.length_take]; omega
  rw [headR_last (by omega), e, recAt_take (by omega)]
def nextR (l : List Rec) (r : Rec) : Rec := { { r with prev := headR l } with sum := sumR { r with prev := headR l } }
def nextV (l : List Rec) (r : Rec) : Rec := if checkR r = 0 then nextR l r else recZ
theorem nextV_yes {l : List Rec} {r : Rec} (h : checkR r = 0) : nextV l r = nextR l r := by rw [nextV, if_pos h]
def okR (l : List Rec) (i : Nat) : Bool := decide (checkR (recAt l i) = 0) && (decide ((recAt l i).prev = headR (l.take i)) && (decide ((recAt l i).sum = sumR (recAt l i)) && !(decide (0 < i) && decide ((recAt l i).time < (recAt l (i - 1)).time))))
theorem okR_iff {l : List Rec} {i : Nat} : okR l i = true ↔ checkR (recAt l i) = 0 ∧ (recAt l i).prev = headR (l.take i) ∧ (recAt l i).sum = sumR (recAt l i) ∧ (0 < i → (recAt l (i - 1)).time ≤ (recAt l i).time) := by
  simp only [okR, Bool.and_eq_true, decide_eq_true_eq, Bool.not_eq_true', Bool.and_eq_false_iff, decide_eq_false_iff_not]
  constructor
  · rintro ⟨h1, h2, h3, h4⟩
    exact ⟨h1, h2, h3, fun h => by rcases h4 with h4 | h4 <;> omega⟩
  · rintro ⟨h1, h2, h3, h4⟩
    refine ⟨h1, h2, h3, ?_⟩
    by_cases h : 0 < i
    · exact .inr (by have := h4 h; omega)
    · exact .inl h
theorem okR_no {l : List Rec} {i : Nat} (h : ¬ (checkR (recAt l i) = 0 ∧ (recAt l i).prev = headR (l.take i) ∧ (recAt l i).sum = sumR (recAt l i) ∧ (0 < i → (recAt l (i - 1)).time ≤ (recAt l i).time))) : okR l i = false := by
  cases e : okR l i
  · rfl
  · exact absurd (okR_iff.1 e) h
def verR (l : List Rec) : Int := match (List.range l.length).find? (fun i => !okR l i) with
  | some i => (i : Int)
  | none => -1
theorem verR_all {l : List Rec} (h : ∀ j, j < l.length → okR l j = true) : verR l = -1 := by
  have e : (List.range l.length).find? (fun i => !okR l i) = none := by
    rw [List.find?_eq_none]
    intro i hi
    rw [h i (List.mem_range.1 hi)]; simp
  rw [verR, e]
theorem verR_at {l : List Rec} {i : Nat} (hi : i < l.length) (h : ∀ j, j < i → okR l j = true) (hn : okR l i = false) : verR l = (i : Int) := by
  have e : (List.range l.length).find? (fun i => !okR l i) = some i := by
    rw [List.find?_range_eq_some]
    refine ⟨by rw [hn]; rfl, List.mem_range.2 hi, fun j hj => by rw [h j hj]; rfl⟩
  rw [verR, e]
def expE (l : List Rec) : Int := match l.find? (fun r => !decide (checkR r = 0)) with
  | some r => checkR r
  | none => 0
def expB (l : List Rec) : List UInt8 := if expE l = 0 then l.flatMap bytesR else []
theorem exp_all {l : List Rec} (h : ∀ j, j < l.length → checkR (recAt l j) = 0) : expE l = 0 := by
  have e : l.find? (fun r => !decide (checkR r = 0)) = none := by
    rw [List.find?_eq_none]
    intro r hr
    obtain ⟨j, hj⟩ := List.getElem?_of_mem hr
    have hjl := (List.getElem?_eq_some_iff.1 hj).1
    have := h j hjl
    rw [recAt_some hjl] at hj
    rw [← Option.some.inj hj, this]; simp
  rw [expE, e]
theorem flat_bytes : ∀ {l : List Rec}, (∀ r ∈ l, checkR r = 0) → (l.flatMap bytesR).length = 155 * l.length
  | [], _ => rfl
  | r :: l, h => by
    have ih := flat_bytes (l := l) fun x hx => h x (by simp [hx])
    rw [List.flatMap_cons, List.length_append, ih, bytesR_length (h r (by simp)), List.length_cons]; omega
def ckB (b : List UInt8) (k : Nat) : List UInt8 := (b.drop (155 * k)).take 155
def impG (b : List UInt8) : Bool := (List.range (b.length / 155)).all fun k => grB (ckB b k)
def impE (b : List UInt8) : Int := if impG b then (if b.length % 155 = 0 then 0 else 3) else 5
def impK (b : List UInt8) (k : Nat) : List Rec := (List.range k).map fun j => gr (ckB b j)
def impL (b : List UInt8) : List Rec := if impE b = 0 then impK b (b.length / 155) else []
theorem impG_all {b : List UInt8} {k : Nat} (hk : b.length < 155 * k + 155) (h : ∀ j, j < k → grB (ckB b j) = true) : impG b = true := by
  rw [impG, List.all_eq_true]
  intro j hj
  exact h j (by have := List.mem_range.1 hj; omega)
theorem imp_odd {b : List UInt8} (h : impG b = true) (hr : ¬ b.length % 155 = 0) : impE b = 3 := by rw [impE, h, if_pos rfl, if_neg hr]
theorem imp_yes {b : List UInt8} (h : impG b = true) (hr : b.length % 155 = 0) : impE b = 0 := by rw [impE, h, if_pos rfl, if_pos hr]
theorem impL_yes {b : List UInt8} (h : impE b = 0) : impL b = impK b (b.length / 155) := by rw [impL, if_pos h]
/-- Records as bytes are read as they were. -/
theorem ck_flat : ∀ {l : List Rec} {k : Nat}, (∀ r ∈ l, checkR r = 0) → k < l.length → ckB (l.flatMap bytesR) k = bytesR (recAt l k)
  | [], k, _, h => by simp at h
  | r :: l, 0, hc, _ => by
    rw [ckB, Nat.mul_zero, List.drop_zero, List.flatMap_cons, List.take_left' (bytesR_length (hc r (by simp)))]; rfl
  | r :: l, k + 1, hc, h => by
    have ih := ck_flat (l := l) (k := k) (fun x hx => hc x (by simp [hx])) (by simpa using h)
    rw [ckB] at ih ⊢
    rw [List.flatMap_cons, show 155 * (k + 1) = 155 + 155 * k by omega, ← List.drop_drop, List.drop_left' (bytesR_length (hc r (by simp))), ih]
    rfl
theorem imp_exp {l : List Rec} (h : ∀ r ∈ l, checkR r = 0) : impE (l.flatMap bytesR) = 0 ∧ impL (l.flatMap bytesR) = l := by
  have hl := flat_bytes h
  have hd : (l.flatMap bytesR).length / 155 = l.length := by omega
  have hg : impG (l.flatMap bytesR) = true := by
    rw [impG, List.all_eq_true, hd]
    intro j hj
    have hjl := List.mem_range.1 hj
    rw [ck_flat h hjl]
    have := (gr_back (h _ (recAt_mem hjl)) []).1
    rwa [List.append_nil] at this
  have he : impE (l.flatMap bytesR) = 0 := imp_yes hg (by omega)
  refine ⟨he, ?_⟩
  rw [impL_yes he, hd, impK]
  apply List.ext_getElem?
  intro j
  rw [List.getElem?_map]
  by_cases hj : j < l.length
  · rw [List.getElem?_range hj, recAt_some hj, Option.map_some, ck_flat h hj]
    have := (gr_back (h _ (recAt_mem hj)) []).2
    rw [List.append_nil] at this
    rw [this]
  · rw [List.getElem?_eq_none (by simp; omega), List.getElem?_eq_none (by omega)]; rfl
end Go.Mo
