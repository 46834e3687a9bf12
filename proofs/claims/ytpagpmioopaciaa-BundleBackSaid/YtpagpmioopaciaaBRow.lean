/- From what a row's statement says of its arguments to what the walks ask: slices that came in. -/
import Derived.Test.YtpagpmioopaciaaBActs
import Derived.WalkKit
import Derived.ProofKit
import Derived.OpenShut
import Derived.ShutString
import Derived.ChangeOld
import Derived.Below
import Derived.SizedLaws
import Derived.ChangeSlices
import Derived.Deep.Slices
set_option linter.unusedVariables false
set_option linter.unusedSimpArgs false
namespace Go.Mo
open Go.ChangeShapes Go.WideShapes Go.ChangeAt Go.RowKit
/-- The whole numbers of a slice that came in. -/
def IsRow (k : IntKind) (w : World) (a : Option Addr) (len cap : Nat) (zs : List Int) : Prop :=
  (a = none ∧ len = 0 ∧ cap = 0 ∧ zs = []) ∨
  ∃ x, a = some x ∧ len ≤ cap ∧ cap ≤ maxLen ∧ zs.length = cap ∧ (∀ i, i < zs.length → w.cell? (x.add i) = some (.int k (zs.getD i 0))) ∧ ∀ n ∈ zs, (Lit.int k n).wf = true
theorem wf_u8 {n : Int} (h : (Lit.int .u8 n).wf = true) : 0 ≤ n ∧ n ≤ 255 := by
  simp only [Lit.wf, Bool.and_eq_true, decide_eq_true_eq] at h
  have e1 : IntKind.min .u8 = 0 := by decide
  have e2 : IntKind.max .u8 = 255 := by decide
  rwa [e1, e2] at h
theorem wf_u32 {n : Int} (h : (Lit.int .u32 n).wf = true) : 0 ≤ n ∧ n ≤ 4294967295 := by
  simp only [Lit.wf, Bool.and_eq_true, decide_eq_true_eq] at h
  have e1 : IntKind.min .u32 = 0 := by decide
  have e2 : IntKind.max .u32 = 4294967295 := by decide
  rwa [e1, e2] at h
theorem wf_i64 {n : Int} (h : (Lit.int .i64 n).wf = true) : -9223372036854775808 ≤ n ∧ n ≤ 9223372036854775807 := by
  simp only [Lit.wf, Bool.and_eq_true, decide_eq_true_eq] at h
  have e1 : IntKind.min .i64 = -9223372036854775808 := by decide
  have e2 : IntKind.max .i64 = 9223372036854775807 := by decide
  rwa [e1, e2] at h
theorem spot_of_cell {w : World} {a : Addr} {v : Value} (h : w.cell? (a.add 0) = some v) : a.spot = none := by
  have h0 : w.cell? a = some v := h
  unfold World.cell? at h0
  split at h0
  · split at h0
    · cases h0
    · rename_i hs; simpa using hs
  · cases h0
theorem add_of {a : Addr} (h : a.spot = none) (i : Nat) : a.add i = ⟨a.block, a.off + i, none⟩ := by
  unfold Addr.add
  split
  · rename_i h0; subst h0; cases a; simp_all
  · rfl
theorem sl_ints {k : IntKind} {w : World} {a : Option Addr} {len cap : Nat} {z : List Int} (h : IsRow k w a len cap z) :
    ∃ zs : List Int, zs.length = len ∧ (∀ n ∈ zs, (Lit.int k n).wf = true) ∧ Sl w (.slice a len cap) 1 len (zs.map (Value.int k)) := by
  rcases h with ⟨rfl, rfl, rfl, rfl⟩ | ⟨x, rfl, hl, hm, hz, hc, hw⟩
  · exact ⟨[], rfl, by simp, Sl.nil w 1⟩
  · refine ⟨z.take len, by simp; omega, fun n hn => hw n (List.mem_of_mem_take hn), some x, cap, rfl, hl, hm, by simp; omega, ?_⟩
    cases len with
    | zero => exact .inl (by simp)
    | succ len =>
      have hs := spot_of_cell (hc 0 (by omega))
      refine .inr ⟨x.block, x.off, by cases x; simp_all, fun j u hj => ?_⟩
      rw [List.getElem?_map] at hj
      obtain ⟨n, hn, rfl⟩ := Option.map_eq_some_iff.1 hj
      rw [List.getElem?_take] at hn
      split at hn
      · obtain ⟨hj1, hj2⟩ := List.getElem?_eq_some_iff.1 hn
        have := hc j hj1
        rw [add_of hs] at this
        rw [this, List.getD_eq_getElem?_getD, hn]
        rfl
      · cases hn
theorem sl_bytes {w : World} {a : Option Addr} {len cap : Nat} {z : List Int} (h : IsRow .u8 w a len cap z) : ∃ l : List UInt8, Sl w (.slice a len cap) 1 len (bys l) := by
  obtain ⟨zs, hz, hw, hs⟩ := sl_ints h
  refine ⟨zs.map fun n => UInt8.ofNat n.toNat, ?_⟩
  have e : bys (zs.map fun n => UInt8.ofNat n.toNat) = zs.map (Value.int .u8) := by
    simp only [bys, List.map_map]
    refine List.map_congr_left fun n hn => ?_
    have h1 := wf_u8 (hw n hn)
    simp only [Function.comp_apply]
    congr 1
    have h2 : (UInt8.ofNat n.toNat).toNat = n.toNat % 256 := UInt8.toNat_ofNat'
    rw [h2]
    omega
  rw [e]
  exact hs
theorem row_of_ints {H : Type} {enc : TypeId × Value → H} {P : Program} {W : World} {t e : TypeId} {k : IntKind} {a : Option Addr} {len cap : Nat} {d : DataW H} {ps : List MemPlace} (ht : P.underlying t = some (.slice e)) (he : P.underlying e = some (.int k)) (hc : P.cellsOf e = 1)
    (h : DataW.Trod enc P W 0 (fun _ => true) true t (.slice a len cap) d ps) : ∃ zs, IsRow k W a len cap zs := by
  obtain ⟨fuel, hf⟩ := h
  rcases open_ints ht he hc hf with ⟨hcs, _⟩ | ⟨x, l, c, zs, hcs, _, hl, hm, hz, _, hcell, hwz⟩
  · simp [Value.cells] at hcs
    obtain ⟨rfl, rfl, rfl⟩ := hcs
    exact ⟨[], .inl ⟨rfl, rfl, rfl, rfl⟩⟩
  · simp [Value.cells] at hcs
    obtain ⟨rfl, rfl, rfl⟩ := hcs
    exact ⟨zs, .inr ⟨_, rfl, hl, hm, by simpa using hz, hcell, hwz⟩⟩
/-- The places that a reading names lie in the heap. -/
theorem trod_below {H : Type} {enc : TypeId × Value → H} {P : Program} {W : World} {t : TypeId} {v : Value} {d : DataW H} {ps : List MemPlace} (h : DataW.Trod enc P W 0 (fun _ => true) true t v d ps) : ∀ x ∈ ps, x.block < W.heap.size := by
  obtain ⟨m, hm⟩ := h
  exact DataW.trod_lt m _ _ _ hm
theorem calls_below {P : Program} {k : Nat} {args : Array Value} {w : World} {u : Value} (h : Does P k args w fun v w' => v = u ∧ Hp w [] w' []) : Calls P k args w fun e w' => e = .returned u ∧ Below w.heap.size w w' :=
  h.calls.mono fun e w' ⟨v, he, hv, hp⟩ => ⟨by rw [he, hv], hp.mod.toBelow⟩
/-- A slice that came in, of elements of several cells. -/
theorem row_of_flat {H : Type} {enc : TypeId × Value → H} {P : Program} {W : World} {t e : TypeId} {a : Option Addr} {len cap sz : Nat} {d : DataW H} {ps : List MemPlace} {α : Type} [Inhabited α] {f : α → List Value} {ok : α → Prop} (hsz : 0 < sz) (ht : P.underlying t = some (.slice e)) (hc : P.cellsOf e = sz)
    (hf : ∀ x, (f x).length = sz) (dec : ∀ n cs x, DataW.trod enc P W 0 (fun _ => true) true n e cs = some x → ∃ y : α, cs = f y ∧ ok y)
    (h : DataW.Trod enc P W 0 (fun _ => true) true t (.slice a len cap) d ps) : ∃ xs : List α, xs.length = len ∧ (∀ x ∈ xs, ok x) ∧ Sl W (.slice a len cap) sz len (xs.flatMap f) := by
  obtain ⟨fuel, hfu⟩ := h
  rcases Deep.open_slice ht hfu with ⟨hcs, _⟩ | ⟨x, l, c, m, n, D, Pl, hcs, _, hl, hm, hmm, _, hel⟩
  · simp [Value.cells] at hcs
    obtain ⟨rfl, rfl, rfl⟩ := hcs
    exact ⟨[], rfl, by simp, Sl.nil W sz⟩
  · simp [Value.cells] at hcs
    obtain ⟨rfl, rfl, rfl⟩ := hcs
    simp only [if_true] at hmm
    subst hmm
    have hx : ∀ i, ∃ y : α, i < len → (ok y ∧ ∀ j, j < sz → W.cell? ((x.add (i * sz)).add j) = (f y)[j]?) := fun i => by
      by_cases hi : i < len
      · obtain ⟨cs', h1, h2⟩ := hel i (by omega)
        obtain ⟨y, rfl, hok⟩ := dec _ _ _ h2
        obtain ⟨_, _, h3⟩ := World.cells?_some h1
        rw [hc] at h3
        exact ⟨y, fun _ => ⟨hok, h3⟩⟩
      · exact ⟨default, fun h => absurd h hi⟩
    obtain ⟨g, hg⟩ := Classical.axiomOfChoice hx
    refine ⟨(List.range len).map g, by simp, fun y hy => ?_, some x, _, rfl, hl, hm, by rw [flat_length hf]; simp, ?_⟩
    · obtain ⟨i, hi, rfl⟩ := List.mem_map.1 hy
      exact (hg i (List.mem_range.1 hi)).1
    · cases len with
      | zero => exact .inl (by simp)
      | succ len =>
        have hs : x.spot = none := by
          have h0 := (hg 0 (by omega)).2 0 hsz
          rw [Nat.zero_mul] at h0
          obtain ⟨u, hu⟩ : ∃ u, (f (g 0))[0]? = some u := ⟨_, List.getElem?_eq_getElem (by rw [hf]; exact hsz)⟩
          rw [hu] at h0
          exact spot_of_cell (a := x) h0
        refine .inr ⟨x.block, x.off, by cases x; simp_all, fun q u hq => ?_⟩
        have hql : q < (len + 1) * sz := by
          have := (List.getElem?_eq_some_iff.1 hq).1
          rwa [flat_length hf, List.length_map, List.length_range] at this
        have hi : q / sz < len + 1 := Nat.div_lt_of_lt_mul (by rwa [Nat.mul_comm] at hql)
        have hj : q % sz < sz := Nat.mod_lt _ hsz
        have hqe : q / sz * sz + q % sz = q := by rw [Nat.mul_comm]; exact Nat.div_add_mod q sz
        have e1 := flat_get hf ((List.range (len + 1)).map g) (q / sz) (q % sz) (g (q / sz)) hj (by simp [hi])
        rw [hqe, hq] at e1
        have e2 := (hg (q / sz) hi).2 (q % sz) hj
        have ha : x.add (q / sz * sz) = ⟨x.block, x.off + q / sz * sz, none⟩ := add_of hs _
        rw [ha, add_of rfl] at e2
        simp only [Nat.add_assoc, hqe] at e2
        rw [e2, ← e1]
/-- A field of a struct that came in. -/
theorem field_trod {H : Type} {enc : TypeId × Value → H} {P : Program} {W : World} {fuel : Nat} {t : TypeId} {cs : List Value} {x : DataW H × List MemPlace} {fs : Array Field} (ht : P.underlying t = some (.struct fs)) (h : DataW.trod enc P W 0 (fun _ => true) true fuel t cs = some x)
    (i : Nat) {fd : Field} {k : Nat} {ds : List Value} (hi : fs[i]? = some fd) (hc : P.cellsOf fd.type = k) (hd : (cs.drop fd.offset).take k = ds) : ∃ n y, DataW.trod enc P W 0 (fun _ => true) true n fd.type ds = some y := by
  obtain ⟨xs, n, _, _, _, hl, hf⟩ := DataW.trod_struct ht h
  have h1 := hf i fd hi
  rw [hc, hd] at h1
  have hlt : i < xs.length := by rw [hl]; exact (Array.getElem?_eq_some_iff.1 hi).1
  exact ⟨n, xs[i], by rw [h1, List.getElem?_eq_getElem hlt]⟩
theorem struct_len {H : Type} {enc : TypeId × Value → H} {P : Program} {W : World} {fuel : Nat} {t : TypeId} {cs : List Value} {x : DataW H × List MemPlace} {fs : Array Field} {k : Nat} (ht : P.underlying t = some (.struct fs)) (h : DataW.trod enc P W 0 (fun _ => true) true fuel t cs = some x) (hc : P.cellsOf t = k) : cs.length = k := by
  obtain ⟨xs, n, _, _, hl, _, _⟩ := DataW.trod_struct ht h
  rw [hl, hc]
def byteOf : Value → UInt8
  | .int _ n => UInt8.ofNat n.toNat
  | _ => 0
end Go.Mo
