/- The law's example of a guard, and what its loops count: plain. -/
import Derived.Test.YtpagpmioopaciaaGGuaQ
import Derived.Test.YtpagpmioopaciaaGReqS
set_option linter.unusedVariables false
set_option linter.unusedSimpArgs false
namespace Go.Mo
open Go.RowKit
abbrev clerkS : ByteArray := ⟨#[99, 108, 101, 114, 107]⟩
abbrev judgeS : ByteArray := ⟨#[106, 117, 100, 103, 101]⟩
abbrev annS : ByteArray := ⟨#[97, 110, 110]⟩
abbrev bobS : ByteArray := ⟨#[98, 111, 98]⟩
abbrev noneS : ByteArray := ⟨#[110, 111, 110, 101]⟩
abbrev clR (u : Value) : RO := (clerkS, u, [3, 5, 99])
abbrev juR (u : Value) : RO := (judgeS, u, [7, 8])
section
variable (u v : Value)
theorem wk1 : defK [] clerkS = 0 ∧ defX [] (clR u) = [clR u] := ⟨by kernel_rfl, by kernel_rfl⟩
theorem wk2 : defK [clR u] judgeS = 0 ∧ defX [clR u] (juR v) = [clR u, juR v] := ⟨by kernel_rfl, by kernel_rfl⟩
theorem wk3 : graK [clR u, juR v] [] annS clerkS = 0 ∧ graX [clR u, juR v] [] annS clerkS = [(annS, clerkS)] := ⟨by kernel_rfl, by kernel_rfl⟩
theorem wk4 : graK [clR u, juR v] [(annS, clerkS)] annS clerkS = 9 ∧ graX [clR u, juR v] [(annS, clerkS)] annS clerkS = [(annS, clerkS)] := ⟨by kernel_rfl, by kernel_rfl⟩
theorem wkp1 : peoL [(annS, clerkS)] = [annS] := by kernel_rfl
theorem gra_new {R : List RO} {L : List HA} {w s : ByteArray} (h0 : nameC w = 0) (h1 : ¬ roF R s < 0) (h2 : ¬ 0 ≤ haF L w s) (h3 : (peoL L).length < 64) : graK R L w s = 0 ∧ graX R L w s = L ++ [(w, s)] := by
  have e : graK R L w s = 0 := by rw [graK, if_pos h0, if_neg h1, if_neg h2, if_neg (fun q => by omega)]
  exact ⟨e, if_pos e⟩
theorem gra_none {R : List RO} {L : List HA} {w s : ByteArray} (h0 : nameC w = 0) (h1 : roF R s < 0) : graK R L w s = 8 ∧ graX R L w s = L := by
  have e : graK R L w s = 8 := by rw [graK, if_pos h0, if_pos h1]
  exact ⟨e, if_neg (by rw [e]; decide)⟩
theorem wk5 : graK [clR u, juR v] [(annS, clerkS)] bobS judgeS = 0 ∧ graX [clR u, juR v] [(annS, clerkS)] bobS judgeS = [(annS, clerkS), (bobS, judgeS)] :=
  gra_new (by kernel_rfl) (by rw [show roF [clR u, juR v] judgeS = 1 by kernel_rfl]; decide) (by decide) (by rw [wkp1]; decide)
theorem wk6 : graK [clR u, juR v] [(annS, clerkS), (bobS, judgeS)] bobS noneS = 8 ∧ graX [clR u, juR v] [(annS, clerkS), (bobS, judgeS)] bobS noneS = [(annS, clerkS), (bobS, judgeS)] :=
  gra_none (by kernel_rfl) (by rw [show roF [clR u, juR v] noneS = -1 by kernel_rfl]; decide)
theorem wkp2 : peoL [(annS, clerkS), (bobS, judgeS)] = [annS, bobS] := by kernel_rfl
theorem wk7 : mayR [clR u, juR v] [(annS, clerkS), (bobS, judgeS)] annS 5 = true := by kernel_rfl
theorem wk8 : mayR [clR u, juR v] [(annS, clerkS), (bobS, judgeS)] annS 7 = false := by kernel_rfl
theorem wk9 : mayR [clR u, juR v] [(annS, clerkS), (bobS, judgeS)] bobS 7 = true := by kernel_rfl
theorem wk9b : mayR [clR u, juR v] [(annS, clerkS), (bobS, judgeS)] bobS 3 = false := by kernel_rfl
theorem wk10 : revK [(annS, clerkS), (bobS, judgeS)] bobS judgeS = 0 ∧ revX [(annS, clerkS), (bobS, judgeS)] bobS judgeS = [(annS, clerkS)] := ⟨by kernel_rfl, by kernel_rfl⟩
theorem wk11 : mayR [clR u, juR v] [(annS, clerkS)] bobS 7 = false := by kernel_rfl
theorem wkA : (!(peoL [(annS, clerkS), (bobS, judgeS)]).any fun s => mayR [clR u, juR v] [(annS, clerkS), (bobS, judgeS)] s 3 && mayR [clR u, juR v] [(annS, clerkS), (bobS, judgeS)] s 7) = true := by
  rw [wkp2]; simp only [List.any_cons, List.any_nil, wk8, wk9b, Bool.and_false, Bool.false_and, Bool.or_false, Bool.not_false]
end
theorem wkO : opsK (ofBt [3, 5, 99]) 18 = [3, 5] := by kernel_rfl
theorem wkH : hasB (ofBt [3, 5, 99]) 5 = true := by kernel_rfl
theorem may7 {mk : MK} {ct : CT} (ha : mayB mk ct annS 7 = false) (hb : mayB mk ct bobS 7 = true) : ([annS, bobS].filter fun s => mayB mk ct s 7) = [bobS] := by simp only [List.filter_cons, ha, hb]; rfl
theorem wkF : (0#32 ||| ofBt [3, 5, 99]).toNat = (ofBt [5, 3]).toNat := by kernel_rfl
theorem strAt_names (R : List RO) (i : Nat) (h : i < R.length) : strAt (R.map (·.1)) i = (roAt R i).1 := by
  have e := strAt_some (l := R.map (·.1)) (i := i) (by rw [List.length_map]; exact h)
  rw [List.getElem?_map, roAt_some h] at e
  exact (Option.some.inj e).symm
theorem rl_name (s : ByteArray) {b : BitVec 32} : (rolC s b)[0]? = some (.string s) := rfl
theorem rl_bits {s : ByteArray} (b : BitVec 32) : (rolC s b)[1]? = some (.int .u32 (b.toNat : Int)) := rfl
theorem Sl.rlE {w : World} {g b m m' c : Nat} {l : List ByteArray} {mk : MK} (h : Sl w (.slice (some ⟨g, b, none⟩) m c) 2 m' (l.flatMap fun s => rolC s (mk s))) (i : Nat) (hi : i < l.length) {j : Nat} {u : Value} (hu : (rolC (strAt l i) (mk (strAt l i)))[j]? = some u) : w.cell? ⟨g, b + i * 2 + j, none⟩ = some u := by
  have hj : j < 2 := (List.getElem?_eq_some_iff.1 hu).1
  rw [Nat.add_assoc]; exact h.get _ _ ((flat_get (e := fun s => rolC s (mk s)) (sz := 2) (fun _ => rfl) l i j (strAt l i) hj (strAt_some hi)).trans hu)
/-- The next of those that are picked. -/
theorem filtS_at {l : List ByteArray} {p : ByteArray → Bool} {i : Nat} (hi : i < l.length) (h : p (strAt l i) = true) : ((l.take i).filter p).length < (l.filter p).length ∧ strAt (l.filter p) ((l.take i).filter p).length = strAt l i := by
  have e : l = l.take i ++ strAt l i :: l.drop (i + 1) := by
    have e1 := List.take_append_drop i l
    have e2 := strAt_some hi
    rw [List.drop_eq_getElem_cons hi] at e1
    rw [List.getElem?_eq_getElem hi] at e2
    rw [Option.some.inj e2] at e1
    exact e1.symm
  have e2 : l.filter p = (l.take i).filter p ++ strAt l i :: (l.drop (i + 1)).filter p := by
    conv => lhs; rw [e]
    rw [List.filter_append, List.filter_cons, if_pos h]
  have hlt : ((l.take i).filter p).length < (l.filter p).length := by rw [e2]; simp
  refine ⟨hlt, ?_⟩
  have e3 := strAt_some hlt
  rw [e2, List.getElem?_append_right (Nat.le_refl _), Nat.sub_self] at e3
  rw [e2]
  exact (Option.some.inj e3).symm
def bothN (R : List RO) (L : List HA) (a b : Int) (l : List ByteArray) (i : Nat) : Bool := (l.take i).any fun s => mayR R L s a && mayR R L s b
theorem bothN_succ {R : List RO} {L : List HA} {a b : Int} {l : List ByteArray} {i : Nat} (hi : i < l.length) : bothN R L a b l (i + 1) = (bothN R L a b l i || (mayR R L (strAt l i) a && mayR R L (strAt l i) b)) := by unfold bothN; rw [take_str1 hi, List.any_append]; simp
theorem bothN_all {R : List RO} {L : List HA} {a b : Int} (l : List ByteArray) {i : Nat} (hi : i = l.length) : bothN R L a b l i = l.any fun s => mayR R L s a && mayR R L s b := by unfold bothN; rw [hi, List.take_length]
theorem Hp.own1 {w0 w : World} {S : List Nat} {H : List Res} {r : Res} (i : Nat) (h : Hp w0 S w H) (hi : H[i]? = some r) : Hp w r.foot w [r] := by
  have h2 := Hp.owns (R := [r]) (h.front i hi)
  simpa [feet] using h2
end Go.Mo
