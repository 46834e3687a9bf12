/- A clip as a sector is read as it was, and a sector that is read as a clip is that clip's: plain laws. -/
import Derived.Test.YtblpmjbddpadcaaZBinG
set_option linter.unusedVariables false
set_option linter.unusedSimpArgs false
namespace Go.Mo
open Go.RowKit Go.Lib
theorem sB_at {p : List UInt8} {k : Nat} (h : p.length = k) (r : List UInt8) : sB (false, p ++ r) (k : Int) = (false, r) := by
  obtain ⟨h1, _, h3⟩ := cur_at p r k h
  simp only [sB, h1, h3, Bool.not_true]
theorem sB_to {s : CS} {p r : List UInt8} {k : Nat} (hs : s = (false, p ++ r)) (h : p.length = k) : sB s (k : Int) = (false, r) := by rw [hs]; exact sB_at h r
theorem sN_at {p : List UInt8} {k : Nat} (h : p.length = k) (hk : k ≤ 8) (r : List UInt8) : sN (false, p ++ r) (k : Int) = getL p := by
  obtain ⟨_, h2, _⟩ := cur_at p r k h
  simp only [sN, curNum, h2]
  rw [List.take_of_length_le (by omega)]
theorem sT_at {p : List UInt8} {k : Nat} (h : p.length = k) (hu : unpadOk p = true) (r : List UInt8) : sT (false, p ++ r) (k : Int) = (false, r) := by
  obtain ⟨h1, h2, h3⟩ := cur_at p r k h
  simp only [sT, curTextBad, h1, h2, h3, hu, Bool.not_true, Bool.or_self]
theorem sT_to {s : CS} {p r : List UInt8} {k : Nat} (hs : s = (false, p ++ r)) (h : p.length = k) (hu : unpadOk p = true) : sT s (k : Int) = (false, r) := by rw [hs]; exact sT_at h hu r
theorem sN_to {s : CS} {p r : List UInt8} {k : Nat} (hs : s = (false, p ++ r)) (h : p.length = k) (hk : k ≤ 8) : sN s (k : Int) = getL p := by rw [hs]; exact sN_at h hk r
theorem sX_at {p : List UInt8} {k : Nat} (h : p.length = k) (r : List UInt8) : sX (false, p ++ r) (k : Int) = ⟨(unpadL p).toArray⟩ := by
  obtain ⟨_, h2, _⟩ := cur_at p r k h
  simp only [sX, curText, h2]
theorem sX_to {s : CS} {p r : List UInt8} {k : Nat} (hs : s = (false, p ++ r)) (h : p.length = k) : sX s (k : Int) = ⟨(unpadL p).toArray⟩ := by rw [hs]; exact sX_at h r
theorem sO_to {s : CS} {p r : List UInt8} {k : Nat} (hs : s = (false, p ++ r)) (h : p.length = k) : curOut s.1 s.2 (k : Int) = p := by rw [hs]; exact (cur_at p r k h).2.1
/-- What is not bad behind a reading: it was good ahead, and there was enough. -/
theorem ok_inv {b : Bool} {l : List UInt8} {k : Nat} (h : curOk b l (k : Int) = true) : b = false ∧ k ≤ l.length ∧ curL b l (k : Int) = l.drop k ∧ curOut b l (k : Int) = l.take k := by
  have h2 := cur_yes h
  simp only [curOk, Bool.and_eq_true, Bool.not_eq_true', decide_eq_true_eq] at h
  exact ⟨h.1, by omega, by rw [h2.2, Int.toNat_natCast], by rw [h2.1, Int.toNat_natCast]⟩
theorem sB_inv {s : CS} {k : Nat} (h : (sB s (k : Int)).1 = false) : s.1 = false ∧ k ≤ s.2.length ∧ s.2 = s.2.take k ++ (sB s (k : Int)).2 ∧ curOut s.1 s.2 (k : Int) = s.2.take k := by
  have h1 : curOk s.1 s.2 (k : Int) = true := by simpa [sB] using h
  obtain ⟨a, b, c, d⟩ := ok_inv h1
  exact ⟨a, b, by simp only [sB, c, List.take_append_drop], d⟩
theorem sT_inv {s : CS} {k : Nat} (h : (sT s (k : Int)).1 = false) : s.1 = false ∧ k ≤ s.2.length ∧ s.2 = s.2.take k ++ (sT s (k : Int)).2 ∧ curOut s.1 s.2 (k : Int) = s.2.take k ∧ unpadOk (s.2.take k) = true := by
  have h0 : curOk s.1 s.2 (k : Int) = true ∧ unpadOk (curOut s.1 s.2 (k : Int)) = true := by simpa [sT, curTextBad] using h
  obtain ⟨h1, h2⟩ := h0
  obtain ⟨a, b, c, d⟩ := ok_inv h1
  exact ⟨a, b, by simp only [sT, c, List.take_append_drop], d, by rw [← d]; exact h2⟩
theorem txRun_inv (s : CS) : ∀ n, (txRun s n).2.1 = false → s.1 = false ∧ s.2 = holdB (txRun s n).1 ++ (txRun s n).2.2
  | 0 => fun h => ⟨h, rfl⟩
  | n + 1 => fun h => by
    obtain ⟨a, b, c, d, e⟩ := sT_inv (k := 16) (s := (txRun s n).2) h
    obtain ⟨f, g⟩ := txRun_inv s n a
    refine ⟨f, ?_⟩
    have q : padL (sX (txRun s n).2 16).data.toList 16 = (txRun s n).2.2.take 16 := by
      have := pad_unpadN (k := 16) e (by rw [List.length_take]; omega) (by decide)
      rw [sX, curText]
      rw [show curOut (txRun s n).2.1 (txRun s n).2.2 16 = (txRun s n).2.2.take 16 from d]
      exact this
    have q2 : holdB (txRun s (n + 1)).1 = holdB (txRun s n).1 ++ (txRun s n).2.2.take 16 := by
      rw [txRun, holdB, List.flatMap_append]
      simp only [List.flatMap_cons, List.flatMap_nil, List.append_nil, q]; rfl
    rw [q2, List.append_assoc]
    exact g.trans (congrArg (holdB (txRun s n).1 ++ ·) c)
theorem kB_getL {l : List UInt8} (h : 1 ≤ l.length) : [kB (getL (l.take 1) : Int)] = l.take 1 := by
  have := get_one (l := l) (k := 0) (by omega)
  simpa using this
theorem sN_inv {s : CS} {k : Nat} (hk : k ≤ 8) (h : (sB s (k : Int)).1 = false) : sN s (k : Int) = getL (s.2.take k) := by
  obtain ⟨a, b, c, d⟩ := sB_inv h
  rw [sN, curNum, d, List.take_of_length_le (by rw [List.length_take]; omega)]
theorem sN_byte {s : CS} (h : (sB s 1).1 = false) : s.2 = [kB (sN s 1 : Int)] ++ (sB s 1).2 := by
  obtain ⟨a, b, c, d⟩ := sB_inv (k := 1) h
  have e := sN_inv (k := 1) (by decide) h
  have e2 : sN s 1 = getL (s.2.take 1) := e
  rw [e2, kB_getL b]; exact c
theorem sN_six {s : CS} (h : (sB s 6).1 = false) : s.2 = putL (u64N (sN s 6 : Int)) 6 ++ (sB s 6).2 := by
  obtain ⟨a, b, c, d⟩ := sB_inv (k := 6) h
  have e : sN s 6 = getL (s.2.take 6) := sN_inv (k := 6) (by decide) h
  have g := getL_lt (s.2.take 6)
  have gl : (s.2.take 6).length = 6 := by rw [List.length_take]; exact Nat.min_eq_left b
  rw [gl] at g
  have g6 : (256 : Nat) ^ 6 = 281474976710656 := by decide
  have hp := put_get (s.2.take 6)
  rw [gl] at hp
  rw [e, u64N_pos (by omega) (by omega), Int.toNat_natCast, hp]; exact c
theorem nmRun_inv (s : CS) : ∀ n, (nmRun s n).2.1 = false → s.1 = false ∧ s.2 = textB (nmRun s n).1 ++ (nmRun s n).2.2
  | 0 => fun h => ⟨h, rfl⟩
  | n + 1 => fun h => by
    have hb := sN_byte (s := (nmRun s n).2) h
    obtain ⟨a, _, _, _⟩ := sB_inv (k := 1) (s := (nmRun s n).2) h
    obtain ⟨f, g⟩ := nmRun_inv s n a
    refine ⟨f, ?_⟩
    have q2 : textB (nmRun s (n + 1)).1 = textB (nmRun s n).1 ++ [kB (sN (nmRun s n).2 1 : Int)] := by
      rw [nmRun, textB, List.map_append]; rfl
    rw [q2, List.append_assoc]
    exact g.trans (congrArg (textB (nmRun s n).1 ++ ·) hb)
theorem kB_toNat {k : Int} (h0 : 0 ≤ k) (h1 : k < 256) : ((kB k).toNat : Int) = k := by
  rw [← kB_wrap, IntKind.wrap_u8]; omega
set_option maxHeartbeats 2000000 in
/-- A sector that is read as a right clip is that clip's. -/
theorem clip_forth {l : List UInt8} {m k : Int} (hl : l.length = 252) (hok : rOk l = true) (hc : clpC (rV l) m k = 0) : l = padN 252 (clpB (rV l)) := by
  simp only [rOk, Bool.and_eq_true, Bool.not_eq_true', decide_eq_true_eq] at hok
  obtain ⟨⟨ht, hb, hz⟩, hf⟩ := hok
  rw [rV_yes ht] at hc ⊢
  obtain ⟨hn, h4, h41, h5⟩ := clpC_lens hc
  rw [rC_hn] at h4
  rw [rC_tn] at h5 h41
  obtain ⟨b10, e10⟩ := nmRun_inv (k10 l) (nT l) hb
  have e9 := sN_byte (s := k9 l) b10
  obtain ⟨b9, _⟩ := sB_inv (k := 1) (s := k9 l) b10
  obtain ⟨b8, e8⟩ := txRun_inv (k8 l) (nH l) b9
  have e7 := sN_byte (s := k7 l) b8
  obtain ⟨b7, _⟩ := sB_inv (k := 1) (s := k7 l) b8
  obtain ⟨b6, l6, e6, d6, u6⟩ := sT_inv (k := 32) (s := k6 l) b7
  have e5 := sN_six (s := k5 l) b6
  obtain ⟨b5, _⟩ := sB_inv (k := 6) (s := k5 l) b6
  have e4 := sN_byte (s := k4 l) b5
  obtain ⟨b4, _⟩ := sB_inv (k := 1) (s := k4 l) b5
  have e3 := sN_six (s := k3 l) b4
  obtain ⟨b3, _⟩ := sB_inv (k := 6) (s := k3 l) b4
  have e2 := sN_byte (s := k2 l) b3
  obtain ⟨b2, _⟩ := sB_inv (k := 1) (s := k2 l) b3
  obtain ⟨b1, _, e1, d1⟩ := sB_inv (k := 32) (s := k1 l) b2
  obtain ⟨_, _, e0, d0⟩ := sB_inv (k := 4) (s := (false, l)) b1
  have q0 : l.take 4 = [67, 76, 73, 80] := by
    have := of_decide_eq_true ht
    rw [← this]; exact d0.symm
  have q1 : (k1 l).2.take 32 = (rA l).1 := d1.symm
  have q4 : kB (sN (k4 l) 1 : Int) = firB (rC l) := by
    have hlt : sN (k4 l) 1 < 2 := hf
    have e : (rC l).fired = decide ((sN (k4 l) 1 : Int) = 1) := rfl
    rw [firB, e]
    rcases Nat.lt_or_ge (sN (k4 l) 1) 1 with h | h
    · have h0 : sN (k4 l) 1 = 0 := by omega
      rw [h0]; decide
    · have h0 : sN (k4 l) 1 = 1 := by omega
      rw [h0]; decide
  have q6 : (k6 l).2.take 32 = padL (rC l).note.data.toList 32 := by
    have := pad_unpadN (k := 32) u6 (by rw [List.length_take]; omega) (by decide)
    have e : (rC l).note = ⟨(unpadL ((k6 l).2.take 32)).toArray⟩ := by
      show sX (k6 l) 32 = _
      rw [sX, curText]
      rw [show curOut (k6 l).1 (k6 l).2 32 = (k6 l).2.take 32 from d6]
    rw [e]; exact this.symm
  have q7 : sN (k7 l) 1 = (rC l).holds.length := by rw [rC_hn]; unfold nH at h4 ⊢; omega
  have q9 : sN (k9 l) 1 = (rC l).texts.length := by rw [rC_tn]; unfold nT at h5 ⊢; omega
  rw [q7] at e7
  rw [q9] at e9
  rw [q4] at e4
  rw [q0] at e0
  rw [q1] at e1
  rw [q6] at e6
  have e : l = clpB (rC l) ++ (k11 l).2 := by
    have r1 : k1 l = sB (false, l) 4 := rfl
    have r2 : k2 l = sB (k1 l) 32 := rfl
    have r3 : k3 l = sB (k2 l) 1 := rfl
    have r4 : k4 l = sB (k3 l) 6 := rfl
    have r5 : k5 l = sB (k4 l) 1 := rfl
    have r6 : k6 l = sB (k5 l) 6 := rfl
    have r7 : k7 l = sT (k6 l) 32 := rfl
    have r8 : k8 l = sB (k7 l) 1 := rfl
    have r9 : k9 l = (txRun (k8 l) (nH l)).2 := rfl
    have r10 : k10 l = sB (k9 l) 1 := rfl
    have r11 : k11 l = (nmRun (k10 l) (nT l)).2 := rfl
    have rA' : (rC l).addr.1 = (rA l).1 := rfl
    have rC' : (rC l).cls = (sN (k2 l) 1 : Int) := rfl
    have rM' : (rC l).made = (sN (k3 l) 6 : Int) := rfl
    have rE' : (rC l).event = (sN (k5 l) 6 : Int) := rfl
    have rH' : (rC l).holds = (txRun (k8 l) (nH l)).1 := rfl
    have rT' : (rC l).texts = (nmRun (k10 l) (nT l)).1 := rfl
    have h1 : l = [67, 76, 73, 80] ++ (k1 l).2 := by rw [r1]; exact e0
    have h2 : (k1 l).2 = (rC l).addr.1 ++ (k2 l).2 := by rw [rA', r2]; exact e1
    have h3 : (k2 l).2 = [kB (rC l).cls] ++ (k3 l).2 := by rw [rC', r3]; exact e2
    have h4 : (k3 l).2 = putL (u64N (rC l).made) 6 ++ (k4 l).2 := by rw [rM', r4]; exact e3
    have h5 : (k4 l).2 = [firB (rC l)] ++ (k5 l).2 := by rw [r5]; exact e4
    have h6 : (k5 l).2 = putL (u64N (rC l).event) 6 ++ (k6 l).2 := by rw [rE', r6]; exact e5
    have h7 : (k6 l).2 = padL (rC l).note.data.toList 32 ++ (k7 l).2 := by rw [r7]; exact e6
    have h8 : (k7 l).2 = [kB ((rC l).holds.length : Int)] ++ (k8 l).2 := by rw [r8]; exact e7
    have h9 : (k8 l).2 = holdB (rC l).holds ++ (k9 l).2 := by rw [rH', r9]; exact e8
    have h10 : (k9 l).2 = [kB ((rC l).texts.length : Int)] ++ (k10 l).2 := by rw [r10]; exact e9
    have h11 : (k10 l).2 = textB (rC l).texts ++ (k11 l).2 := by rw [rT', r11]; exact e10
    clear r1 r2 r3 r4 r5 r6 r7 r8 r9 r10 r11
    rw [h11] at h10; rw [h10] at h9; rw [h9] at h8; rw [h8] at h7; rw [h7] at h6; rw [h6] at h5; rw [h5] at h4; rw [h4] at h3; rw [h3] at h2; rw [h2] at h1
    simp only [clpB, clpX, List.append_assoc]
    exact h1
  have hz2 := zeroL_iff.1 hz
  have hlen : (k11 l).2.length = 252 - (clpB (rC l)).length := by
    have := congrArg List.length e
    rw [List.length_append, hl] at this
    omega
  rw [padN, ← hlen, ← hz2]; exact e
/-- What stands in the sector of a right clip. -/
def clpR (c : Clp) (S : List UInt8) : List UInt8 := [67, 76, 73, 80] ++ (c.addr.1 ++ ([kB c.cls] ++ (putL (u64N c.made) 6 ++ ([firB c] ++ (putL (u64N c.event) 6 ++ (padL c.note.data.toList 32 ++ ([kB (c.holds.length : Int)] ++ (holdB c.holds ++ ([kB (c.texts.length : Int)] ++ (textB c.texts ++ S))))))))))
theorem clpB_R (c : Clp) (S : List UInt8) : clpB c ++ S = clpR c S := by simp only [clpB, clpX, clpR, List.append_assoc]
theorem get6 {n : Int} (h : 0 ≤ n ∧ n ≤ 1099511627776) : (getL (putL (u64N n) 6) : Int) = n := by
  have g6 : (256 : Nat) ^ 6 = 281474976710656 := by decide
  rw [u64N_pos (by omega) (by omega), get_put (by omega)]; omega
theorem get1 {n : Int} (h : 0 ≤ n ∧ n < 256) : (getL [kB n] : Int) = n := by rw [u8_get]; exact kB_toNat h.1 h.2
theorem hold_pads {l : List ByteArray} (h : holdsC l = 0) : ∀ s ∈ l, padOk s.data.toList.length 16 = true := by
  intro s hs
  obtain ⟨j, hj⟩ := List.getElem?_of_mem hs
  have hl := (List.getElem?_eq_some_iff.1 hj).1
  have h1 := (holdsC_zero.1 h).2 j hl
  simp only [hoB, decide_eq_true_eq] at h1
  rw [strAt_some hl] at hj
  rw [← Option.some.inj hj]
  exact name_pad (nameC_le h1.1).2
theorem str_back {s : ByteArray} {k : Nat} (h : padOk s.data.toList.length (k : Int) = true) : (⟨(unpadL (padL s.data.toList k)).toArray⟩ : ByteArray) = s :=
  (congrArg (fun z : List UInt8 => (⟨z.toArray⟩ : ByteArray)) (unpad_pad _ _ h).1).trans (ba_eq s)
theorem txRun_at (S : List UInt8) : ∀ (l : List ByteArray), (∀ s ∈ l, padOk s.data.toList.length 16 = true) → ∀ n, n ≤ l.length → txRun (false, holdB l ++ S) n = (l.take n, (false, holdB (l.drop n) ++ S))
  | l, h, 0, _ => by rw [txRun, List.take_zero, List.drop_zero]
  | l, h, n + 1, hn => by
    have ih := txRun_at S l h n (by omega)
    have hs := strAt_some (l := l) (i := n) (by omega)
    have hp := h _ (mem_at hs)
    have e : holdB (l.drop n) ++ S = padL (strAt l n).data.toList 16 ++ (holdB (l.drop (n + 1)) ++ S) := by
      rw [List.drop_eq_getElem_cons (by omega), holdB, List.flatMap_cons, List.append_assoc]
      have : l[n] = strAt l n := by rw [List.getElem?_eq_getElem (by omega)] at hs; exact Option.some.inj hs
      rw [this]; rfl
    have hk : (padL (strAt l n).data.toList 16).length = 16 := padL_length _ _ hp
    rw [txRun, ih, e]
    have h1 := sX_at (k := 16) hk (holdB (l.drop (n + 1)) ++ S)
    have h2 := sT_at (k := 16) hk (unpad_pad _ 16 hp).2 (holdB (l.drop (n + 1)) ++ S)
    have h3 : (⟨(unpadL (padL (strAt l n).data.toList 16)).toArray⟩ : ByteArray) = strAt l n := str_back (k := 16) hp
    rw [h3] at h1
    show (l.take n ++ [sX (false, padL (strAt l n).data.toList 16 ++ (holdB (l.drop (n + 1)) ++ S)) ((16 : Nat) : Int)], sT (false, padL (strAt l n).data.toList 16 ++ (holdB (l.drop (n + 1)) ++ S)) ((16 : Nat) : Int)) = _
    rw [h1, h2, ← take_one hs]
theorem nmRun_at (S : List UInt8) : ∀ (l : List Int), (∀ x ∈ l, 0 ≤ x ∧ x < 256) → ∀ n, n ≤ l.length → nmRun (false, textB l ++ S) n = (l.take n, (false, textB (l.drop n) ++ S))
  | l, h, 0, _ => by rw [nmRun, List.take_zero, List.drop_zero]
  | l, h, n + 1, hn => by
    have ih := nmRun_at S l h n (by omega)
    have hs := intAt_some (l := l) (i := n) (by omega)
    have hp := h _ (mem_at hs)
    have e : textB (l.drop n) ++ S = [kB (intAt l n)] ++ (textB (l.drop (n + 1)) ++ S) := by
      rw [List.drop_eq_getElem_cons (by omega), textB, List.map_cons]
      have : l[n] = intAt l n := by rw [List.getElem?_eq_getElem (by omega)] at hs; exact Option.some.inj hs
      rw [this]; rfl
    rw [nmRun, ih, e]
    have h1 := sN_at (k := 1) (p := [kB (intAt l n)]) rfl (by decide) (textB (l.drop (n + 1)) ++ S)
    have h2 := sB_at (k := 1) (p := [kB (intAt l n)]) rfl (textB (l.drop (n + 1)) ++ S)
    have h3 := get1 hp
    show (l.take n ++ [(sN (false, [kB (intAt l n)] ++ (textB (l.drop (n + 1)) ++ S)) ((1 : Nat) : Int) : Int)], sB (false, [kB (intAt l n)] ++ (textB (l.drop (n + 1)) ++ S)) ((1 : Nat) : Int)) = _
    rw [h1, h2, h3, ← take_one hs]
theorem text_lt {l : List Int} {k : Int} (h : textsC l (min k 40) = 0) : ∀ x ∈ l, 0 ≤ x ∧ x < 256 := by
  intro x hx
  obtain ⟨j, hj⟩ := List.getElem?_of_mem hx
  have hl := (List.getElem?_eq_some_iff.1 hj).1
  have h1 := (textsC_zero.1 h).2 j hl
  simp only [txB, decide_eq_true_eq] at h1
  rw [intAt_some hl] at hj
  rw [← Option.some.inj hj]
  omega
theorem fir_val (c : Clp) : (getL [firB c] : Nat) = if c.fired = true then 1 else 0 := by
  rw [u8_get, firB]; split <;> rfl
/-- The sector of a right clip is read as it was. -/
theorem clip_back {c : Clp} {m k : Int} (hc : clpC c m k = 0) : rOk (padN 252 (clpB c)) = true ∧ rV (padN 252 (clpB c)) = c := by
  obtain ⟨h1, h2, h3, h4, h5⟩ := clpC_zero.1 hc
  obtain ⟨hn, hh4, ht1, ht4⟩ := clpC_lens hc
  generalize hZ : List.replicate (252 - (clpB c).length) (0 : UInt8) = Z
  have el : padN 252 (clpB c) = clpR c Z := by rw [padN, hZ, clpB_R]
  have hZ0 : zeroL Z = true := by rw [← hZ]; exact zeroL_replicate _
  rw [el]
  clear el hZ
  generalize hl : clpR c Z = l
  have pn : padOk c.note.data.toList.length ((32 : Nat) : Int) = true := reason_pad h3
  have e0 : ((false, l) : CS) = (false, clpR c Z) := by rw [hl]
  have e1 := sB_to (k := 4) (p := [67, 76, 73, 80]) e0 rfl
  have e2 := sB_to (k := 32) (p := c.addr.1) e1 c.addr.2
  have eA : (rA l).1 = c.addr.1 := sO_to (k := 32) (p := c.addr.1) e1 c.addr.2
  have e3 := sB_to (k := 1) (p := [kB c.cls]) e2 rfl
  have eC : (sN (k2 l) 1 : Int) = c.cls := (congrArg Int.ofNat (sN_to (k := 1) (p := [kB c.cls]) e2 rfl (by decide))).trans (get1 (by omega))
  have e4 := sB_to (k := 6) (p := putL (u64N c.made) 6) e3 (putL_length _ _)
  have eM : (sN (k3 l) 6 : Int) = c.made := (congrArg Int.ofNat (sN_to (k := 6) (p := putL (u64N c.made) 6) e3 (putL_length _ _) (by decide))).trans (get6 ⟨h2.1, h2.2.1⟩)
  have e5 := sB_to (k := 1) (p := [firB c]) e4 rfl
  have eF : sN (k4 l) 1 = if c.fired = true then 1 else 0 := (sN_to (k := 1) (p := [firB c]) e4 rfl (by decide)).trans (fir_val c)
  have e6 := sB_to (k := 6) (p := putL (u64N c.event) 6) e5 (putL_length _ _)
  have eE : (sN (k5 l) 6 : Int) = c.event := (congrArg Int.ofNat (sN_to (k := 6) (p := putL (u64N c.event) 6) e5 (putL_length _ _) (by decide))).trans (get6 ⟨h2.2.2.1, h2.2.2.2.1⟩)
  have e7 := sT_to (k := 32) (p := padL c.note.data.toList 32) e6 (padL_length _ _ pn) (unpad_pad _ 32 pn).2
  have eX : sX (k6 l) 32 = c.note := (sX_to (k := 32) (p := padL c.note.data.toList 32) e6 (padL_length _ _ pn)).trans (str_back (k := 32) pn)
  have e8 := sB_to (k := 1) (p := [kB (c.holds.length : Int)]) e7 rfl
  have eH : sN (k7 l) 1 = c.holds.length := by
    have := get1 (n := (c.holds.length : Int)) (by omega)
    have e := sN_to (k := 1) (p := [kB (c.holds.length : Int)]) e7 rfl (by decide)
    refine Eq.trans e ?_
    omega
  have eh : nH l = c.holds.length := by rw [nH, eH]; omega
  have eT : txRun (k8 l) (nH l) = (c.holds, (false, [kB (c.texts.length : Int)] ++ (textB c.texts ++ Z))) := by
    rw [show k8 l = (false, holdB c.holds ++ ([kB (c.texts.length : Int)] ++ (textB c.texts ++ Z))) from e8, eh, txRun_at _ _ (hold_pads h4) _ (Nat.le_refl _), List.take_of_length_le (Nat.le_refl _), List.drop_of_length_le (Nat.le_refl _)]; rfl
  have e9 : k9 l = (false, [kB (c.texts.length : Int)] ++ (textB c.texts ++ Z)) := by rw [k9, eT]
  have e10 := sB_to (k := 1) (p := [kB (c.texts.length : Int)]) e9 rfl
  have eQ : sN (k9 l) 1 = c.texts.length := by
    have := get1 (n := (c.texts.length : Int)) (by omega)
    have e := sN_to (k := 1) (p := [kB (c.texts.length : Int)]) e9 rfl (by decide)
    refine Eq.trans e ?_
    omega
  have et : nT l = c.texts.length := by rw [nT, eQ]; omega
  have eU : nmRun (k10 l) (nT l) = (c.texts, (false, Z)) := by
    rw [show k10 l = (false, textB c.texts ++ Z) from e10, et, nmRun_at Z _ (text_lt h5) _ (Nat.le_refl _), List.take_of_length_le (Nat.le_refl _), List.drop_of_length_le (Nat.le_refl _)]; rfl
  have e11 : k11 l = (false, Z) := by rw [k11, eU]
  have ht : rTag l = true := by
    rw [rTag]
    refine decide_eq_true ?_
    exact sO_to (k := 4) (p := [67, 76, 73, 80]) e0 rfl
  have eFd : decide ((sN (k4 l) 1 : Int) = 1) = c.fired := by
    have : sN (k4 l) 1 = if c.fired = true then 1 else 0 := eF
    rw [this]; cases c.fired <;> rfl
  refine ⟨?_, ?_⟩
  · simp only [rOk, ht, e11, hZ0, Bool.not_false, Bool.and_self, Bool.true_and, decide_eq_true_eq]
    rw [eF]; split <;> omega
  · rw [rV_yes ht]
    exact clp_ext eA eC eM eFd eE eX (congrArg Prod.fst eT) (congrArg Prod.fst eU)
def fNm (x : List UInt8) (n : Nat) : List ByteArray := (List.range n).map fun i => ⟨(unpadL ((x.drop (83 + 16 * i)).take 16)).toArray⟩
def fNh (x : List UInt8) : Nat := min (x.getD 82 0).toNat 5
def fAt (x : List UInt8) : Nat := 83 + 16 * fNh x
def fNt (x : List UInt8) : Nat := min (x.getD (fAt x) 0).toNat 5
def fTx (x : List UInt8) (n : Nat) : List Int := (List.range n).map fun i => ((x.getD (fAt x + 1 + i) 0).toNat : Int)
def fC (x : List UInt8) : Clp := ⟨⟨cut32 x 4, cut32_length _ _⟩, ((x.getD 36 0).toNat : Int), (getL ((x.drop 37).take 6) : Int), decide (((x.getD 43 0).toNat : Int) = 1), (getL ((x.drop 44).take 6) : Int), fNm x (fNh x), ⟨(unpadL ((x.drop 50).take 32)).toArray⟩, fTx x (fNt x)⟩
theorem getD_drop {x r : List UInt8} {b : UInt8} {k : Nat} (h : x.drop k = b :: r) : x.getD k 0 = b := by
  have := List.getElem?_drop (xs := x) (i := k) (j := 0)
  rw [h, Nat.add_zero] at this
  rw [List.getD_eq_getElem?_getD, ← this]; rfl
theorem drop_next {x p r : List UInt8} {a k : Nat} (h : x.drop a = p ++ r) (hp : p.length = k) : x.drop (a + k) = r := by rw [← List.drop_drop, h, List.drop_left' hp]
theorem drop_start {x p r : List UInt8} {k : Nat} (h : x = p ++ r) (hp : p.length = k) : x.drop k = r := by rw [h, List.drop_left' hp]
theorem holdB_length {l : List ByteArray} (h : ∀ s ∈ l, padOk s.data.toList.length 16 = true) : (holdB l).length = 16 * l.length := by
  induction l with
  | nil => rfl
  | cons s l ih =>
    have := ih fun y hy => h y (List.mem_cons_of_mem _ hy)
    have h2 : (padL s.data.toList 16).length = 16 := padL_length _ _ (h s List.mem_cons_self)
    rw [show holdB (s :: l) = padL s.data.toList 16 ++ holdB l from rfl, List.length_append, h2, this, List.length_cons]; omega
theorem holdB_split {l : List ByteArray} {n : Nat} (h : n ≤ l.length) : holdB l = holdB (l.take n) ++ holdB (l.drop n) := by
  rw [holdB, holdB, holdB, ← List.flatMap_append, List.take_append_drop]
theorem fC_back {c : Clp} {m k : Int} (hc : clpC c m k = 0) (S : List UInt8) : fC (clpB c ++ S) = c := by
  obtain ⟨h1, h2, h3, h4, h5⟩ := clpC_zero.1 hc
  obtain ⟨hn, hh4, ht1, ht4⟩ := clpC_lens hc
  generalize hx : clpB c ++ S = x
  have pn : padOk c.note.data.toList.length ((32 : Nat) : Int) = true := reason_pad h3
  have d4 := drop_start (k := 4) (p := [67, 76, 73, 80]) (hx.symm.trans (clpB_R c S)) rfl
  have d36 := drop_next (k := 32) (p := c.addr.1) d4 c.addr.2
  have d37 := drop_next (k := 1) (p := [kB c.cls]) d36 rfl
  have d43 := drop_next (k := 6) (p := putL (u64N c.made) 6) d37 (putL_length _ _)
  have d44 := drop_next (k := 1) (p := [firB c]) d43 rfl
  have d50 := drop_next (k := 6) (p := putL (u64N c.event) 6) d44 (putL_length _ _)
  have d82 := drop_next (k := 32) (p := padL c.note.data.toList 32) d50 (padL_length _ _ pn)
  have d83 := drop_next (k := 1) (p := [kB (c.holds.length : Int)]) d82 rfl
  simp only [Nat.reduceAdd] at d36 d37 d43 d44 d50 d82 d83
  have eA : cut32 x 4 = c.addr.1 := by rw [cut32, d4, List.take_left' c.addr.2, c.addr.2]; simp
  have eC : ((x.getD 36 0).toNat : Int) = c.cls := by rw [getD_drop d36]; exact kB_toNat (by omega) (by omega)
  have eM : (getL ((x.drop 37).take 6) : Int) = c.made := by rw [d37, List.take_left' (putL_length 6 _)]; exact get6 ⟨h2.1, h2.2.1⟩
  have eF : decide (((x.getD 43 0).toNat : Int) = 1) = c.fired := by rw [getD_drop d43, firB]; cases c.fired <;> rfl
  have eE : (getL ((x.drop 44).take 6) : Int) = c.event := by rw [d44, List.take_left' (putL_length 6 _)]; exact get6 ⟨h2.2.2.1, h2.2.2.2.1⟩
  have eX : (⟨(unpadL ((x.drop 50).take 32)).toArray⟩ : ByteArray) = c.note := by rw [d50, List.take_left' (show (padL c.note.data.toList 32).length = 32 from padL_length _ _ pn)]; exact str_back (k := 32) pn
  have eH : fNh x = c.holds.length := by
    have := kB_toNat (k := (c.holds.length : Int)) (by omega) (by omega)
    rw [fNh, getD_drop d82]; omega
  have hp := hold_pads h4
  have eN : fNm x (fNh x) = c.holds := by
    refine str_ext (by rw [fNm, List.length_map, List.length_range, eH]) fun j hj => ?_
    rw [fNm, List.length_map, List.length_range, eH] at hj
    have hs := strAt_some hj
    have hq := hp _ (mem_at hs)
    have e1 : x.drop 83 = holdB (c.holds.take j) ++ (padL (strAt c.holds j).data.toList 16 ++ (holdB (c.holds.drop (j + 1)) ++ ([kB (c.texts.length : Int)] ++ (textB c.texts ++ S)))) := by
      rw [d83, holdB_split (l := c.holds) (n := j + 1) (by omega), holdB_succ hj]; simp only [List.append_assoc]
    have e2 := drop_next e1 (holdB_length fun s hs => hp s (List.mem_of_mem_take hs))
    rw [List.length_take, Nat.min_eq_left (by omega)] at e2
    have e3 : strAt (fNm x (fNh x)) j = ⟨(unpadL ((x.drop (83 + 16 * j)).take 16)).toArray⟩ := by
      rw [strAt, fNm, List.getD_eq_getElem?_getD, List.getElem?_map, List.getElem?_range (by omega)]; rfl
    rw [e3, e2, List.take_left' (show (padL (strAt c.holds j).data.toList 16).length = 16 from padL_length _ _ hq)]
    exact str_back (k := 16) hq
  have dA : x.drop (fAt x) = [kB (c.texts.length : Int)] ++ (textB c.texts ++ S) := by
    have := drop_next d83 (holdB_length hp)
    rw [fAt, eH]; exact this
  have eT : fNt x = c.texts.length := by
    have := kB_toNat (k := (c.texts.length : Int)) (by omega) (by omega)
    rw [fNt, getD_drop dA]; omega
  have dB := drop_next (p := [kB (c.texts.length : Int)]) dA (k := 1) rfl
  have eU : fTx x (fNt x) = c.texts := by
    refine int_ext (by rw [fTx, List.length_map, List.length_range, eT]) fun j hj => ?_
    rw [fTx, List.length_map, List.length_range, eT] at hj
    have hb := text_lt h5 _ (mem_at (intAt_some hj))
    have e1 : x.drop (fAt x + 1) = textB (c.texts.take j) ++ (kB (intAt c.texts j) :: (textB (c.texts.drop (j + 1)) ++ S)) := by
      have e0 : textB c.texts = textB (c.texts.take (j + 1)) ++ textB (c.texts.drop (j + 1)) := by rw [textB, textB, textB, ← List.map_append, List.take_append_drop]
      rw [dB, e0, textB_succ hj, List.append_assoc, List.append_assoc]; rfl
    have e2 := drop_next e1 (k := j) (by rw [textB, List.length_map, List.length_take]; omega)
    have e3 : intAt (fTx x (fNt x)) j = ((x.getD (fAt x + 1 + j) 0).toNat : Int) := by
      rw [intAt, fTx, List.getD_eq_getElem?_getD, List.getElem?_map, List.getElem?_range (by omega)]; rfl
    rw [e3, getD_drop e2]
    exact kB_toNat hb.1 hb.2
  exact clp_ext eA eC eM eF eE eX eN eU
theorem clpC_less {c : Clp} {m k : Int} (h : clpC c m k = 0) : clpC c 8 40 = 0 := by
  obtain ⟨h1, h2, h3, h4, h5⟩ := clpC_zero.1 h
  refine clpC_zero.2 ⟨⟨h1.1, h1.2.2, h1.2.2⟩, h2, h3, h4, ?_⟩
  obtain ⟨a, b⟩ := textsC_zero.1 h5
  refine textsC_zero.2 ⟨a, fun j hj => ?_⟩
  have := b j hj
  simp only [txB, decide_eq_true_eq] at this ⊢
  exact ⟨⟨this.1.1, by omega⟩, this.2⟩
/-- What the program reads is what the reference says. -/
theorem get_iff {x : List UInt8} (hx : x.length = 256) (m k : Int) : gOk x m k = true ↔ ¬ gZ x ∧ clpC (fC x) 8 40 = 0 ∧ secC (fC x) = x ∧ clpC (fC x) m k = 0 := by
  constructor
  · intro h
    obtain ⟨hz, hh, ho, hc⟩ := gOk_iff.1 h
    have h8 := clpC_less hc
    have e1 := clip_forth (l := x.take 252) (by rw [List.length_take, hx]; rfl) ho hc
    have e2 : x = secL (clpB (rV (x.take 252))) := (sec_iff hx (clpB_le h8)).2 ⟨hh, e1⟩
    have e3 : fC x = rV (x.take 252) := by
      have e := secL_eq (clpB_le h8)
      rw [longL, padN, List.append_assoc] at e
      have := fC_back h8 (List.replicate (252 - (clpB (rV (x.take 252))).length) 0 ++ fourL (ofB (padN 252 (clpB (rV (x.take 252))))))
      rw [← this]
      congr 1
      exact e2.trans e
    rw [e3]
    exact ⟨hz, h8, by rw [secC_yes h8]; exact e2.symm, hc⟩
  · rintro ⟨hz, h8, hs, hc⟩
    have e2 : x = secL (clpB (fC x)) := by rw [secC_yes h8] at hs; exact hs.symm
    obtain ⟨a, b⟩ := (sec_iff hx (clpB_le h8)).1 e2
    obtain ⟨c, d⟩ := clip_back h8
    exact gOk_iff.2 ⟨hz, a, by rw [b]; exact c, by rw [b, d]; exact hc⟩
theorem get_val {x : List UInt8} (hx : x.length = 256) {m k : Int} (h : gOk x m k = true) : gV x m k = fC x := by
  obtain ⟨hz, h8, hs, hc⟩ := (get_iff hx m k).1 h
  have e2 : x = secL (clpB (fC x)) := by rw [secC_yes h8] at hs; exact hs.symm
  obtain ⟨a, b⟩ := (sec_iff hx (clpB_le h8)).1 e2
  rw [gV_yes h, b, (clip_back h8).2]
/-- A right clip's sector is read as it was. -/
theorem sec_back {c : Clp} {m k : Int} (hc : clpC c 8 40 = 0) (hm : clpC c m k = 0) : gOk (secC c) m k = true ∧ gV (secC c) m k = c := by
  have e : secC c = secL (clpB c) := secC_yes hc
  have hl : (secC c).length = 256 := secC_length c
  obtain ⟨a, b⟩ := (sec_iff (secL_length (clpB c)) (clpB_le hc)).1 rfl
  obtain ⟨q1, q2⟩ := clip_back hc
  have hz : ¬ gZ (secC c) := by
    intro h
    have h4 : (secC c).take 4 = [67, 76, 73, 80] := by
      have : (secL (clpB c)).take 4 = ((secL (clpB c)).take 252).take 4 := by rw [List.take_take]; rfl
      rw [e, this, b, padN, clpB_R]; rfl
    rw [h] at h4
    revert h4; decide
  have hg : gOk (secC c) m k = true := gOk_iff.2 ⟨hz, by rw [e]; exact a, by rw [e, b]; exact q1, by rw [e, b, q2]; exact hm⟩
  exact ⟨hg, by rw [gV_yes hg, e, b, q2]⟩
theorem sec_inj {c d : Clp} (hc : clpC c 8 40 = 0) (hd : clpC d 8 40 = 0) : secC c = secC d ↔ c = d :=
  ⟨fun h => by rw [← (sec_back hc hc).2, h, (sec_back hd hd).2], fun h => by rw [h]⟩
end Go.Mo
