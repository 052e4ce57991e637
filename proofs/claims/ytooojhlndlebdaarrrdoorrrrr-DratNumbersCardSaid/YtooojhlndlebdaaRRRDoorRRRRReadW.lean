/- drat's (*reader).read: the walk (under way). No conditions. -/
import Derived.Test.YtooojhlndlebdaaRRRDoorRRRRTake
set_option linter.unusedVariables false
set_option linter.unusedSimpArgs false
namespace Go.Proofs.YtooojhlndlebdaaRRRDoorRRRR.R
open Go.RowKit Go.Lib Go.Proofs.YtooojhlndlebdaaRRRDoorRRRRW.PrintWords Go.Proofs.YtooojhlndlebdaaRRRDoorRRRRW.PrintLast Go.Proofs.YtooojhlndlebdaaRRRDoorRRRRW.PrintMore

/-- What is left to read, and where it ends. -/
def restF (st : St) (at_ : Nat) (l : List UInt8) : St × Nat := linesF (linesL l.length l) at_ st
theorem linesL_more (n : Nat) : ∀ (m : Nat) (l : List UInt8), l.length ≤ n → l.length ≤ m → linesL n l = linesL m l := by
  induction n with
  | zero =>
    intro m l h _
    have : l = [] := List.eq_nil_of_length_eq_zero (by omega)
    rw [this, linesL_nil, linesL_nil]
  | succ n ih =>
    intro m l h1 h2
    by_cases hl : l = []
    · rw [hl, linesL_nil, linesL_nil]
    · have hpos := List.length_pos_iff.2 hl
      obtain ⟨m, rfl⟩ : ∃ q, m = q + 1 := ⟨m - 1, by omega⟩
      have hc : (cut l [10]).2.1.length < l.length := by
        unfold cut
        split
        · simp only [List.length_drop, List.length_cons, List.length_nil]; omega
        · simpa using hpos
      rw [linesL, linesL, if_neg hl, if_neg hl, ih m _ (by omega) (by omega)]
theorem restF_nil (st : St) (n : Nat) : restF st n [] = (st, if st.begun then n + 1 else 0) := rfl
theorem restF_cons (st : St) (n : Nat) (l : List UInt8) (hl : l ≠ []) : restF st n l = (if (lineF st (cut l [10]).1).2 then restF (lineF st (cut l [10]).1).1 (n + 1) (cut l [10]).2.1 else ((lineF st (cut l [10]).1).1, n + 1)) := by
  have hpos := List.length_pos_iff.2 hl
  have hc : (cut l [10]).2.1.length < l.length := by
    unfold cut
    split
    · simp only [List.length_drop, List.length_cons, List.length_nil]; omega
    · simpa using hpos
  unfold restF
  obtain ⟨q, hq⟩ : ∃ q, l.length = q + 1 := ⟨l.length - 1, by omega⟩
  rw [hq, linesL, if_neg hl, linesF, linesL_more q (cut l [10]).2.1.length _ (by omega) (Nat.le_refl _)]
end Go.Proofs.YtooojhlndlebdaaRRRDoorRRRR.R
