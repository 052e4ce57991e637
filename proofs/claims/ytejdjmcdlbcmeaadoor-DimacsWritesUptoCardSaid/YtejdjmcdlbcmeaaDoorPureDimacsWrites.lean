/- The pure law of DimacsWrites: both Writes come to the same. No conditions. -/
import Derived.Test.YtejdjmcdlbcmeaaDoorPx3W
set_option linter.unusedVariables false
namespace Go.Proofs.YtejdjmcdlbcmeaaDoor.P
open Go.RowKit Go.Proofs.YtejdjmcdlbcmeaaDoorW.PrintWords

/-- The statement DimacsWrites, over lists. -/
theorem dimacsWrites_pure (v : Int) (l : List (List Int)) (hm : ∀ s ∈ l, s.length ≤ 1048576) (hl : l.length ≤ 1048576) : ∃ k, depotlaw03_DimacsWrites.f k v l = some true := by
  refine ⟨l.length + 1048576 + 2, ?_⟩
  rw [depotlaw03_DimacsWrites.f, copyFormula_is v l 1048576 hm (by omega) (by omega) _ (by omega)]
  simp only [Option.bind_some]
  rw [dimacs_Write.f, if_pos ⟨hl, hm⟩]
  simp only [Option.bind_some]
  rw [depotref03_Write.f, if_pos ⟨hl, hm⟩]
  simp only [Option.bind_some]
  rw [if_pos trivial, beq_self_eq_true]
end Go.Proofs.YtejdjmcdlbcmeaaDoor.P
