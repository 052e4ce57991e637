/- The laws' own functions few, copied and same. No conditions. -/
import Derived.Test.YtbaiglikmneicaaDoorPx4
import Derived.Test.YtbaiglikmneicaaDoorPx7
import Derived.Test.YtbaiglikmneicaaDoorEWriteC
set_option linter.unusedVariables false
set_option linter.unusedSimpArgs false
namespace Go.Proofs.YtbaiglikmneicaaDoor.P
open Go.RowKit Go.Lib Go.Proofs.YtbaiglikmneicaaDoorW.PrintWords Go.Proofs.YtbaiglikmneicaaDoorW.PrintLast Go.Proofs.YtbaiglikmneicaaDoorW.PrintMore
/-- The stanzas, of each the first 2000 fields. -/
def fewL (l : List S41) : List S41 := l.map fun s => ⟨s.f0, s.f1.take 2000⟩
theorem few_l0 (l : List S41) (hl : l.length < 4398046511104) (d : Nat) : ∀ (k i : Nat), i ≤ l.length → l.length - i = d → d < k → depotlaw21_few.l0 k l (fewL (l.take i)) (i : Int) = some (fewL l) := by
  induction d with
  | zero =>
    intro k i h0 hd hk
    obtain ⟨k, rfl⟩ := succ_of hk
    have c1 : ¬ ((i : Int) < (l.length : Int)) := by omega
    rw [depotlaw21_few.l0, if_neg c1, List.take_of_length_le (by omega)]
  | succ d ih =>
    intro k i h0 hd hk
    have hlt : i < l.length := by omega
    obtain ⟨k, rfl⟩ := succ_of hk
    have c1 : (i : Int) < (l.length : Int) := by omega
    have c2 : (0 : Int) ≤ (i : Int) := by omega
    have c4 : (fewL (l.take i)).length < 4398046511104 := by unfold fewL; rw [List.length_map, List.length_take]; omega
    have en : fewL (l.take i) ++ [(⟨l[i].f0, l[i].f1.take 2000⟩ : S41)] = fewL (l.take (i + 1)) := by
      rw [take_succ' hlt]
      unfold fewL
      rw [List.map_append]
      rfl
    have hn := ih k (i + 1) (by omega) (by omega) (by omega)
    rw [depotlaw21_few.l0, if_pos c1, if_pos c2, rdS_nat hlt]
    by_cases h2 : ((l[i].f1.length : Int)) > 2000
    · have c5 : (2000 : Int) ≤ (l[i].f1.length : Int) := by omega
      rw [if_pos h2, if_pos c5, if_pos c4, en, w64 (by omega) (by omega)]
      exact hn
    · have e : l[i].f1.take 2000 = l[i].f1 := List.take_of_length_le (by omega)
      rw [e] at en
      rw [if_neg h2, if_pos c4, en, w64 (by omega) (by omega)]
      exact hn
theorem few_is (l : List S41) (hl : l.length < 4398046511104) (k : Nat) (hk : l.length < k) : depotlaw21_few.f k l = some (fewL l) := by
  unfold depotlaw21_few.f
  have := few_l0 l hl l.length k 0 (by omega) (by omega) hk
  simpa [fewL] using this

theorem same_l1 (a b : List S41) (m : Bool) (i : Nat) (hi : i < a.length) (hib : i < b.length) (he : a[i].f1 = b[i].f1) (hm : a[i].f1.length < 4398046511104) (q d : Nat) : ∀ j : Nat, j ≤ a[i].f1.length → a[i].f1.length - j = d →
    depotlaw21_same.l1 (q + d + 1) a b m (i : Int) (j : Int) = depotlaw21_same.l0 q a b m (wrap64 ((i : Int) + 1)) := by
  induction d with
  | zero =>
    intro j h0 hd
    have c1 : (0 : Int) ≤ (i : Int) := by omega
    have c2 : (i : Int) < (a.length : Int) := by omega
    have c3 : ¬ ((j : Int) < (a[i].f1.length : Int)) := by omega
    rw [depotlaw21_same.l1, if_pos c1, if_pos c2, rdS_nat hi, if_neg c3]
  | succ d ih =>
    intro j h0 hd
    have hj : j < a[i].f1.length := by omega
    have c1 : (0 : Int) ≤ (i : Int) := by omega
    have c2 : (i : Int) < (a.length : Int) := by omega
    have c3 : (j : Int) < (a[i].f1.length : Int) := by omega
    have c4 : (0 : Int) ≤ (j : Int) := by omega
    have c5 : (i : Int) < (b.length : Int) := by omega
    have c6 : (j : Int) < (b[i].f1.length : Int) := by rw [← he]; exact c3
    have e1 : rd_T50 b[i].f1 (j : Int) = rd_T50 a[i].f1 (j : Int) := by rw [he]
    rw [show q + (d + 1) + 1 = (q + d + 1) + 1 by omega, depotlaw21_same.l1, if_pos c1, if_pos c2, rdS_nat hi, if_pos c3, if_pos c4, if_pos c5, rdS_nat hib, if_pos c6, e1, if_neg (by simp), w64 (by omega) (by omega)]
    exact ih (j + 1) (by omega) (by omega)
theorem same_l0 (a b : List S41) (m : Bool) (M : Nat) (hM : M < 4398046511104) (hf : a.map (·.f1) = b.map (·.f1)) (hm : m = true → a = b) (hl : a.length < 4398046511104) (hs : ∀ s ∈ a, s.f1.length ≤ M) (d : Nat) : ∀ (k i : Nat), i ≤ a.length → a.length - i = d → d * (M + 4) < k →
    depotlaw21_same.l0 k a b m (i : Int) = some true := by
  have hlen : a.length = b.length := by have := congrArg List.length hf; simpa using this
  induction d with
  | zero =>
    intro k i h0 hd hk
    obtain ⟨k, rfl⟩ := succ_of hk
    have c1 : ¬ ((i : Int) < (a.length : Int)) := by omega
    rw [depotlaw21_same.l0, if_neg c1]
  | succ d ih =>
    intro k i h0 hd hk
    have hi : i < a.length := by omega
    have hib : i < b.length := by omega
    have hsi := hs a[i] (List.getElem_mem hi)
    have he : a[i].f1 = b[i].f1 := by
      have h1 : (a.map (·.f1))[i]'(by simpa using hi) = (b.map (·.f1))[i]'(by simpa using hib) := by simp only [hf]
      rw [List.getElem_map, List.getElem_map] at h1
      exact h1
    have hk2 : (d + 1) * (M + 4) = d * (M + 4) + (M + 4) := by rw [Nat.add_mul, Nat.one_mul]
    obtain ⟨q, rfl⟩ : ∃ q, k = q + a[i].f1.length + 1 + 1 + 1 := ⟨k - a[i].f1.length - 3, by omega⟩
    have c1 : (i : Int) < (a.length : Int) := by omega
    have c2 : (0 : Int) ≤ (i : Int) := by omega
    have c3 : (i : Int) < (b.length : Int) := by omega
    have ce : ((a[i].f1.length : Int) != (b[i].f1.length : Int)) = false := by rw [he]; simp
    have hn := ih q (i + 1) (by omega) (by omega) (by omega)
    have h1 := same_l1 a b m i hi hib he (by omega) q a[i].f1.length 0 (by omega) (by omega)
    have h1' : depotlaw21_same.l1 (q + a[i].f1.length + 1) a b m (i : Int) 0 = _ := h1
    have hj : depotlaw21_same.j1 (q + a[i].f1.length + 1 + 1) a b m (i : Int) false = some true := by
      rw [depotlaw21_same.j1, if_neg (by decide), h1', w64 (by omega) (by omega)]
      exact hn
    rw [depotlaw21_same.l0, if_pos c1, rdS_nat hi, rdS_nat hib]
    cases m with
    | false => rw [if_neg (by decide), if_pos c2, if_pos c3, ce]; exact hj
    | true =>
      have hab := hm rfl
      subst hab
      rw [if_pos rfl, if_pos c2, if_pos c3, if_pos rfl, ce]
      exact hj
theorem same_is (a b : List S41) (m : Bool) (M : Nat) (hM : M < 4398046511104) (hf : a.map (·.f1) = b.map (·.f1)) (hm : m = true → a = b) (hl : a.length < 4398046511104) (hs : ∀ s ∈ a, s.f1.length ≤ M) (k : Nat) (hk : a.length * (M + 4) < k) : depotlaw21_same.f k a b m = some true := by
  have hlen : a.length = b.length := by have := congrArg List.length hf; simpa using this
  unfold depotlaw21_same.f
  rw [if_pos (by omega)]
  have := same_l0 a b m M hM hf hm hl hs a.length k 0 (by omega) (by omega) hk
  simpa using this
end Go.Proofs.YtbaiglikmneicaaDoor.P
