/- The reference's comparisons of a list with itself. No conditions. -/
import Derived.Test.YtooojhlndlebdaaRRRDoorRRRRRx3
import Derived.Test.YtooojhlndlebdaaRRRDoorRRRRWordsIs
set_option linter.unusedVariables false
set_option linter.unusedSimpArgs false
namespace Go.Proofs.YtooojhlndlebdaaRRRDoorRRRR.R
open Go.RowKit Go.Lib Go.Proofs.YtooojhlndlebdaaRRRDoorRRRRW.PrintWords Go.Proofs.YtooojhlndlebdaaRRRDoorRRRRW.PrintLast Go.Proofs.YtooojhlndlebdaaRRRDoorRRRRW.PrintMore

theorem rd_natr {xs : List Int} {n : Nat} (h : n < xs.length) : rd xs (n : Int) = xs[n] := by
  unfold rd
  rw [Int.toNat_natCast, List.getD_eq_getElem?_getD, List.getElem?_eq_getElem h]
  rfl
theorem rdOf_natr {α : Type} {z : α} {xs : List α} {n : Nat} (h : n < xs.length) : rdOf z xs (n : Int) = xs[n] := by
  unfold rdOf
  rw [Int.toNat_natCast, List.getD_eq_getElem?_getD, List.getElem?_eq_getElem h]
  rfl
theorem rdT_natr {xs : List S33} {n : Nat} (h : n < xs.length) : rd_T33 xs (n : Int) = xs[n] := by
  unfold rd_T33
  rw [Int.toNat_natCast, List.getD_eq_getElem?_getD, List.getElem?_eq_getElem h]
  rfl
theorem take_succr {α : Type} {xs : List α} {n : Nat} (h : n < xs.length) : xs.take (n + 1) = xs.take n ++ [xs[n]] := by
  rw [List.take_succ_eq_append_getElem h]
theorem sameInts_l0 (l : List Int) (hl : l.length ≤ 4398046511104) (d : Nat) : ∀ (k i : Nat), i ≤ l.length → l.length - i = d → d < k → depotref00_SameInts.l0 k l l (i : Int) = some true := by
  induction d with
  | zero =>
    intro k i h0 hd hk
    obtain ⟨k, rfl⟩ := succ_ofr hk
    rw [depotref00_SameInts.l0, if_neg (by omega)]
  | succ d ih =>
    intro k i h0 hd hk
    obtain ⟨k, rfl⟩ := succ_ofr hk
    rw [depotref00_SameInts.l0, if_pos (by omega), if_pos (by omega), if_pos (by omega), if_pos rfl, w64r (by omega) (by omega)]
    exact ih k (i + 1) (by omega) (by omega) (by omega)
theorem sameInts_self (l : List Int) (hl : l.length ≤ 4398046511104) (k : Nat) (hk : l.length < k) : depotref00_SameInts.f k l l = some true := by
  unfold depotref00_SameInts.f
  rw [if_pos rfl]
  exact sameInts_l0 l hl l.length k 0 (by omega) (by omega) hk
theorem sameSteps_l0 (l : List S33) (M : Nat) (hm : ∀ s ∈ l, s.f1.length ≤ M) (hM : M ≤ 4398046511104) (hl : l.length ≤ 4398046511104) (d : Nat) : ∀ (k i : Nat), i ≤ l.length → l.length - i = d → d + M + 1 < k → depotref00_SameSteps.l0 k l l (i : Int) = some true := by
  induction d with
  | zero =>
    intro k i h0 hd hk
    obtain ⟨k, rfl⟩ := succ_ofr hk
    rw [depotref00_SameSteps.l0, if_neg (by omega)]
  | succ d ih =>
    intro k i h0 hd hk
    obtain ⟨k, rfl⟩ := succ_ofr hk
    have hi : i < l.length := by omega
    have h1 := hm l[i] (List.getElem_mem hi)
    rw [depotref00_SameSteps.l0, if_pos (by omega), if_pos (by omega), if_pos (by omega), rdT_natr hi, bne_self_eq_false, if_neg (by decide), sameInts_self _ (by omega) k (by omega)]
    simp only [Option.bind_some, if_true]
    rw [w64r (by omega) (by omega)]
    exact ih k (i + 1) (by omega) (by omega) (by omega)
theorem sameSteps_self (l : List S33) (M : Nat) (hm : ∀ s ∈ l, s.f1.length ≤ M) (hM : M ≤ 4398046511104) (hl : l.length ≤ 4398046511104) (k : Nat) (hk : l.length + M + 1 < k) : depotref00_SameSteps.f k l l = some true := by
  unfold depotref00_SameSteps.f
  rw [if_pos rfl]
  exact sameSteps_l0 l M hm hM hl l.length k 0 (by omega) (by omega) hk
end Go.Proofs.YtooojhlndlebdaaRRRDoorRRRR.R
