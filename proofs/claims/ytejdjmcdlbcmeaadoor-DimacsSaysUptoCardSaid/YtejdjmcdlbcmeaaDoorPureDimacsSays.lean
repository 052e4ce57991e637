/- The pure law of DimacsSays: both WriteAnswers come to the same text. No conditions. -/
import Derived.Test.YtejdjmcdlbcmeaaDoorPx3S
set_option linter.unusedVariables false
set_option linter.unusedSimpArgs false
namespace Go.Proofs.YtejdjmcdlbcmeaaDoor.P
open Go.RowKit Go.Proofs.YtejdjmcdlbcmeaaDoorW.PrintWords

theorem copyBools_l0 (l : List Bool) (hl : l.length < 17592186044416) (d : Nat) : ∀ (k i : Nat), i ≤ l.length → l.length - i = d → d < k → depotref00_CopyBools.l0 k l (l.take i) (i : Int) = some l := by
  induction d with
  | zero =>
    intro k i h0 hd hk
    obtain ⟨k, rfl⟩ := succ_of hk
    rw [depotref00_CopyBools.l0, if_neg (by omega), List.take_of_length_le (by omega)]
  | succ d ih =>
    intro k i h0 hd hk
    obtain ⟨k, rfl⟩ := succ_of hk
    rw [depotref00_CopyBools.l0, if_pos (by omega), if_pos (by omega), if_pos (by rw [List.length_take]; omega), rdOf_nat (by omega), ← take_succ' (by omega), w64 (by omega) (by omega)]
    exact ih k (i + 1) (by omega) (by omega) (by omega)
theorem copyBools_is (l : List Bool) (hl : l.length < 17592186044416) (k : Nat) (hk : l.length < k) : depotref00_CopyBools.f k l = some l := by
  unfold depotref00_CopyBools.f
  exact copyBools_l0 l hl l.length k 0 (by omega) (by omega) hk

/-- The statement DimacsSays, over lists. -/
theorem dimacsSays_pure (a : Bool) (l : List Bool) (hl : l.length ≤ 1048576) : ∃ k, depotlaw03_DimacsSays.f k a l = some true := by
  refine ⟨l.length + 1, ?_⟩
  rw [depotlaw03_DimacsSays.f, copyBools_is l (by omega) _ (by omega)]
  simp only [Option.bind_some]
  rw [dimacs_WriteAnswer.f, if_pos hl]
  simp only [Option.bind_some]
  rw [depotref03_WriteAnswer.f, if_pos hl]
  simp only [Option.bind_some]
  rw [beq_self_eq_true]
end Go.Proofs.YtejdjmcdlbcmeaaDoor.P
