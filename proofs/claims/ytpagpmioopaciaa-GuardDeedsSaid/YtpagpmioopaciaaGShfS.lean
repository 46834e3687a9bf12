/- Contracts of the library's functions that turn a slice of names which the call owns: sorting, dropping what is twice, taking out. -/
import Derived.Test.YtpagpmioopaciaaGActs
import Derived.Test.YtpagpmioopaciaaGShf
import Derived.Sort.OwnSorted
set_option linter.unusedVariables false
set_option linter.unusedSimpArgs false
namespace Go.Mo
open Go.Sort Go.Proofs
def strL (l : List ByteArray) : List (List UInt8) := l.map fun b => b.data.toList
def backS (z : List (List UInt8)) : List ByteArray := z.map fun x => ⟨x.toArray⟩
theorem strL_enc (l : List ByteArray) : (strL l).map encStr = l.map Value.string := by simp [strL, Function.comp_def]
theorem backS_enc (z : List (List UInt8)) : (backS z).map Value.string = z.map encStr := by simp [backS, Function.comp_def]
theorem strL_len (l : List ByteArray) : (strL l).length = l.length := by simp [strL]
theorem backS_len (z : List (List UInt8)) : (backS z).length = z.length := by simp [backS]
def sortS (l : List ByteArray) : List ByteArray := backS ((strL l).mergeSort fun x y => decide (x ≤ y))
theorem does_of_calls {P : Program} {k : Nat} {args : Array Value} {w : World} {R : Ending → World → Prop} {post : Value → World → Prop} (hf : IsFn P k) (h : Calls P k args w R) (hq : ∀ e w', R e w' → ∃ v, e = .returned v ∧ post v w') : Does P k args w post :=
  ⟨hf, h.mono hq⟩
theorem put_row {w : World} {T g cap q : Nat} {cur : Array Value} {ts rest : List (List UInt8)} (v : Value) (hv : v.ownBlock = some g) (os : Array Obj) (hb : w.heap[g]? = some (.cells cur T (0, 0))) (h1 : ts.length + rest.length ≤ cap) (h2 : cap ≤ maxLen) (h3 : cur.size = cap * 1) :
    Hp w v.ownBlock.toList (grow (putRow encStr (Sort.ahead w q) g 0 (ts ++ rest).toArray) os) [.row T 1 (.slice (some ⟨g, 0, none⟩) ts.length cap) ts.length (ts.map encStr)] := by
  refine Hp.ofGrown (by rw [hv]; exact grownBy_sorted _) ?_ (.inl (by rw [hv]; rfl))
  refine ⟨by simp, .inr ⟨g, cap, _, rfl, Nat.zero_le _, heap_sorted _ hb, by omega, h2, by simp [putCells, h3], ?_⟩⟩
  have h := take_putCells cur (ts ++ rest) (by rw [List.length_append]; omega)
  have h5 := congrArg (List.take ts.length) h
  rw [List.take_take, List.length_append, List.map_append, List.take_left' (by simp), Nat.min_eq_left (by omega)] at h5
  rw [Nat.mul_one]; exact h5
theorem row_cases {w : World} {T n : Nat} {v : Value} {l : List ByteArray} (hr : (Res.row T 1 v n (l.map Value.string)).at_ w) : n = l.length ∧ ((v = .slice none 0 0 ∧ l = []) ∨ ∃ g cap cur, v = .slice (some ⟨g, 0, none⟩) (strL l).length cap ∧ w.heap[g]? = some (.cells cur T (0, 0)) ∧ (strL l).length ≤ cap ∧ cap ≤ maxLen ∧ cur.size = cap * 1 ∧ Holds encStr w g 0 (strL l).toArray ∧ g < w.heap.size) := by
  obtain ⟨h0, h⟩ := hr
  rw [List.length_map, Nat.mul_one] at h0
  refine ⟨h0.symm, ?_⟩
  rcases h with ⟨rfl, rfl⟩ | ⟨g, cap, cur, rfl, _, hb, h1, h2, h3, h4⟩
  · exact .inl ⟨rfl, List.eq_nil_of_length_eq_zero h0⟩
  · refine .inr ⟨g, cap, cur, by rw [strL_len, h0], hb, by rw [strL_len]; omega, h2, h3, holds_of_block hb ?_, (Array.getElem?_eq_some_iff.1 hb).1⟩
    rw [strL_len, strL_enc, h0, ← h4, Nat.mul_one]
theorem sort_does {P : Program} {k : Nat} (hf : IsFn P k) (hs : ∀ (blk off cap : Nat) (ss : List (List UInt8)) (w : World), Holds encStr w blk off ss.toArray → blk < w.heap.size → ss.length < 4611686018427387904 → Calls P k #[.slice (some ⟨blk, off, none⟩) ss.length cap] w fun e w' => e = .returned (.tuple #[]) ∧ ∃ n os, w' = grow (putRow encStr (Sort.ahead w n) blk off (ss.mergeSort fun x y => decide (x ≤ y)).toArray) os)
    (hn : ∀ (p : Option Addr) (cap : Nat) (w : World), Calls P k #[.slice p 0 cap] w fun e w' => e = .returned (.tuple #[]) ∧ w' = w) {w : World} {T n : Nat} {v : Value} {l : List ByteArray} (hr : (Res.row T 1 v n (l.map Value.string)).at_ w) (hl : l.length ≤ 65535) :
    Does P k #[v] w fun _ w' => Hp w v.ownBlock.toList w' [.row T 1 v n ((sortS l).map Value.string)] := by
  obtain ⟨rfl, ⟨rfl, rfl⟩ | ⟨g, cap, cur, rfl, hb, h1, h2, h3, hH, hg⟩⟩ := row_cases hr
  · refine does_of_calls hf (hn none 0 w) ?_
    rintro _ w1 ⟨rfl, e0⟩
    rw [e0]
    refine ⟨_, rfl, ?_⟩
    have e : (sortS []).map Value.string = [] := by simp [sortS, strL, backS]
    rw [e]; exact (Hp.refl w []).nilRow T 1
  · refine does_of_calls hf (hs g 0 cap (strL l) w hH hg (by rw [strL_len]; omega)) ?_
    rintro _ _ ⟨rfl, q, os, rfl⟩
    refine ⟨_, rfl, ?_⟩
    have hls : ((strL l).mergeSort fun x y => decide (x ≤ y)).length = (strL l).length := List.length_mergeSort _
    have := put_row (w := w) (T := T) (g := g) (cap := cap) (q := q) (cur := cur) (ts := (strL l).mergeSort fun x y => decide (x ≤ y)) (rest := []) (.slice (some ⟨g, 0, none⟩) (strL l).length cap) rfl os hb (by rw [hls]; simpa using h1) h2 h3
    rw [List.append_nil] at this
    rw [sortS, backS_enc]
    have e := strL_len l
    rw [hls] at this
    rw [← e]; exact this
theorem delete_does {P : Program} {k : Nat} (hf : IsFn P k) (hs : ∀ (blk off cap i j : Nat) (zs : List (List UInt8)) (w : World), Holds encStr w blk off zs.toArray → zs.length ≤ cap → cap ≤ 9223372036854775807 → i ≤ j → j ≤ zs.length → Calls P k #[.slice (some ⟨blk, off, none⟩) zs.length cap, .int .i64 i, .int .i64 j] w fun e w' => e = .returned (.slice (some ⟨blk, off, none⟩) (zs.length - (j - i)) cap) ∧ ∃ q, w' = putRow encStr (Sort.ahead w q) blk off (zs.take i ++ zs.drop j ++ List.replicate (j - i) []).toArray)
    {w : World} {T n i : Nat} {v : Value} {l : List ByteArray} (hr : (Res.row T 1 v n (l.map Value.string)).at_ w) (hi : i < l.length) :
    Does P k #[v, .int .i64 (i : Int), .int .i64 ((i : Int) + 1)] w fun v' w' => Hp w v.ownBlock.toList w' [.row T 1 v' (l.take i ++ l.drop (i + 1)).length ((l.take i ++ l.drop (i + 1)).map Value.string)] := by
  obtain ⟨rfl, ⟨rfl, rfl⟩ | ⟨g, cap, cur, rfl, hb, h1, h2, h3, hH, hg⟩⟩ := row_cases hr
  · simp at hi
  · have e := strL_len l
    refine does_of_calls hf (hs g 0 cap i (i + 1) (strL l) w hH h1 (by simp only [maxLen] at h2; omega) (by omega) (by omega)) ?_
    rintro _ _ ⟨rfl, q, rfl⟩
    refine ⟨_, rfl, ?_⟩
    have hl : ((strL l).take i ++ (strL l).drop (i + 1)).length = (strL l).length - (i + 1 - i) := by simp only [List.length_append, List.length_take, List.length_drop]; omega
    have := put_row (w := w) (T := T) (g := g) (cap := cap) (q := q) (cur := cur) (ts := (strL l).take i ++ (strL l).drop (i + 1)) (rest := List.replicate (i + 1 - i) []) (.slice (some ⟨g, 0, none⟩) (strL l).length cap) rfl #[] hb (by rw [hl, List.length_replicate]; omega) h2 h3
    rw [grow_empty] at this
    have e2 : ((strL l).take i ++ (strL l).drop (i + 1)) = strL (l.take i ++ l.drop (i + 1)) := by simp [strL, List.map_take, List.map_drop]
    rw [e2, strL_enc, strL_len (l.take i ++ l.drop (i + 1))] at this
    rw [← e2] at this
    have e3 : (strL l).length - (i + 1 - i) = (l.take i ++ l.drop (i + 1)).length := by rw [← hl, e2, strL_len]
    rw [e3]; exact this
end Go.Mo
