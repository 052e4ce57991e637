/- What a literal is; what Formed and Sound come to, in the program and in the reference; copies. No conditions. -/
import Derived.Test.YtejdjmcdlbcmeaaDoorPx1
import Derived.Test.YtejdjmcdlbcmeaaDoorPx2
import Derived.Test.YtejdjmcdlbcmeaaDoorBase
set_option linter.unusedVariables false
set_option linter.unusedSimpArgs false
namespace Go.Proofs.YtejdjmcdlbcmeaaDoor.P
open Go.RowKit Go.Proofs.YtejdjmcdlbcmeaaDoorW.PrintWords Go.Proofs.YtejdjmcdlbcmeaaDoorW.PrintLast Go.Proofs.YtejdjmcdlbcmeaaDoorW.PrintMore Go.Proofs.YtejdjmcdlbcmeaaDoor.P

theorem copyInts_l0 (l : List Int) (hl : l.length < 17592186044416) (d : Nat) : ∀ (k i : Nat), i ≤ l.length → l.length - i = d → d < k → depotref00_CopyInts.l0 k l (l.take i) (i : Int) = some l := by
  induction d with
  | zero =>
    intro k i h0 hd hk
    obtain ⟨k, rfl⟩ := succ_of hk
    rw [depotref00_CopyInts.l0, if_neg (by omega), List.take_of_length_le (by omega)]
  | succ d ih =>
    intro k i h0 hd hk
    obtain ⟨k, rfl⟩ := succ_of hk
    rw [depotref00_CopyInts.l0, if_pos (by omega), if_pos (by omega), if_pos (by rw [List.length_take]; omega), rd_nat (by omega), ← take_succ' (by omega), w64 (by omega) (by omega)]
    exact ih k (i + 1) (by omega) (by omega) (by omega)
theorem copyInts_is (l : List Int) (hl : l.length < 17592186044416) (k : Nat) (hk : l.length < k) : depotref00_CopyInts.f k l = some l := by
  unfold depotref00_CopyInts.f
  exact copyInts_l0 l hl l.length k 0 (by omega) (by omega) hk
/-- Is it a literal? -/
def litOk (x : Int) : Bool := decide (x ≠ 0 ∧ -1048576 ≤ x ∧ x ≤ 1048576)
theorem formed_is (x : Int) : lits_Formed.f x = some (litOk x) := by
  unfold lits_Formed.f litOk
  by_cases h : x = 0
  · rw [if_pos h]; simp [h]
  · rw [if_neg h]
    by_cases h1 : x ≥ -1048576
    · rw [if_pos h1]; congr 1; rw [decide_eq_decide]; omega
    · rw [if_neg h1]; congr 1; symm; rw [decide_eq_false_iff_not]; omega
theorem refFormed_is (x : Int) : depotref01_Formed.f x = some (litOk x) := by
  unfold depotref01_Formed.f litOk
  by_cases h : x ≥ 1
  · rw [if_pos h]
    by_cases h1 : x ≤ 1048576
    · rw [if_pos h1]; congr 1; symm; rw [decide_eq_true_eq]; omega
    · rw [if_neg h1, if_pos (by omega)]; congr 1; rw [decide_eq_decide]; omega
  · rw [if_neg h]
    by_cases h1 : x ≥ -1048576
    · rw [if_pos h1]; congr 1; rw [decide_eq_decide]; omega
    · rw [if_neg h1]; congr 1; symm; rw [decide_eq_false_iff_not]; omega
theorem sound_l0 (l : List Int) (hl : l.length < 17592186044416) (d : Nat) : ∀ (k i : Nat), i ≤ l.length → l.length - i = d → d < k → lits_Sound.l0 k l (l.length : Int) (i : Int) = some ((l.drop i).all litOk) := by
  induction d with
  | zero =>
    intro k i h0 hd hk
    obtain ⟨k, rfl⟩ := succ_of hk
    rw [lits_Sound.l0, if_neg (by omega), List.drop_of_length_le (by omega)]
    rfl
  | succ d ih =>
    intro k i h0 hd hk
    obtain ⟨k, rfl⟩ := succ_of hk
    rw [lits_Sound.l0, if_pos (by omega), if_pos (by omega), if_pos (by omega), rd_nat (by omega), formed_is, List.drop_eq_getElem_cons (by omega), List.all_cons]
    simp only [Option.bind_some]
    cases h : litOk (l[i]'(by omega)) with
    | false => simp
    | true =>
      rw [if_pos rfl, w64 (by omega) (by omega)]
      simpa using ih k (i + 1) (by omega) (by omega) (by omega)
theorem sound_is (l : List Int) (hl : l.length < 17592186044416) (k : Nat) (hk : l.length < k) : lits_Sound.f k l = some (l.all litOk) := by
  unfold lits_Sound.f
  exact sound_l0 l hl l.length k 0 (by omega) (by omega) hk
theorem refSound_l0 (l : List Int) (hl : l.length < 17592186044416) (d : Nat) : ∀ (k i : Nat), i ≤ l.length → l.length - i = d → d < k → depotref01_Sound.l0 k l (i : Int) = some ((l.drop i).all litOk) := by
  induction d with
  | zero =>
    intro k i h0 hd hk
    obtain ⟨k, rfl⟩ := succ_of hk
    rw [depotref01_Sound.l0, if_neg (by omega), List.drop_of_length_le (by omega)]
    rfl
  | succ d ih =>
    intro k i h0 hd hk
    obtain ⟨k, rfl⟩ := succ_of hk
    rw [depotref01_Sound.l0, if_pos (by omega), if_pos (by omega), rd_nat (by omega), refFormed_is, List.drop_eq_getElem_cons (by omega), List.all_cons]
    simp only [Option.bind_some]
    cases h : litOk (l[i]'(by omega)) with
    | false => simp
    | true =>
      rw [if_pos rfl, w64 (by omega) (by omega)]
      simpa using ih k (i + 1) (by omega) (by omega) (by omega)
theorem refSound_is (l : List Int) (hl : l.length < 17592186044416) (k : Nat) (hk : l.length < k) : depotref01_Sound.f k l = some (l.all litOk) := by
  unfold depotref01_Sound.f
  exact refSound_l0 l hl l.length k 0 (by omega) (by omega) hk

end Go.Proofs.YtejdjmcdlbcmeaaDoor.P
