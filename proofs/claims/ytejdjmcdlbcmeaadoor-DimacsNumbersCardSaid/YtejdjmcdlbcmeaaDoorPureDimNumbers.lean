/- The pure law DimacsNumbers: the law's function comes to true. No conditions. -/
import Derived.Test.YtejdjmcdlbcmeaaDoorRxN
import Derived.Test.YtejdjmcdlbcmeaaDoorSameD
import Derived.KernelRfl
set_option linter.unusedVariables false
set_option linter.unusedSimpArgs false
namespace Go.Proofs.YtejdjmcdlbcmeaaDoor.R
open Go.RowKit Go.Lib Go.Proofs.YtejdjmcdlbcmeaaDoorW.PrintWords Go.Proofs.YtejdjmcdlbcmeaaDoorW.PrintLast Go.Proofs.YtejdjmcdlbcmeaaDoorW.PrintMore

theorem read_one : readD (⟨#[112, 32, 99, 110, 102, 32, 50, 32, 49, 10, 49, 32, 45, 50, 32, 48, 10]⟩ : ByteArray) = (⟨true, 1, 2, [[1, -2]], []⟩, 0, 0) := by kernel_rfl
theorem readOne_f : dimacs_Read.f (⟨#[112, 32, 99, 110, 102, 32, 50, 32, 49, 10, 49, 32, 45, 50, 32, 48, 10]⟩ : ByteArray) = some (2, [[1, -2]], 0, 0) := by
  unfold dimacs_Read.f
  rw [if_pos (by decide), read_one]
  rfl
theorem readsOne_is (k : Nat) (hk : 2 < k) : depotlaw03_readsOne.f k = some true := by
  unfold depotlaw03_readsOne.f
  rw [readOne_f]
  simp only [Option.bind_some]
  simp [rd_L3, sameInts_self [1, -2] (by decide) k (by simpa using hk)]
theorem dimacsNumbers_pure : ∃ k, depotlaw03_DimacsNumbers.f k = some true := by
  refine ⟨4, ?_⟩
  unfold depotlaw03_DimacsNumbers.f
  rw [readsOne_is 4 (by decide)]
  rfl
end Go.Proofs.YtejdjmcdlbcmeaaDoor.R
