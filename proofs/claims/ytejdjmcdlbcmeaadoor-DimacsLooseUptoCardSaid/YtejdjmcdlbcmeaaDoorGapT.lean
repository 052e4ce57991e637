/- What the law's gap comes to. No conditions. -/
import Derived.Test.YtejdjmcdlbcmeaaDoorLx1
import Derived.Test.YtejdjmcdlbcmeaaDoorLooseR
set_option linter.unusedVariables false
set_option linter.unusedSimpArgs false
namespace Go.Proofs.YtejdjmcdlbcmeaaDoor.L
open Go.RowKit Go.Lib Go.Proofs.YtejdjmcdlbcmeaaDoorW.PrintWords Go.Proofs.YtejdjmcdlbcmeaaDoorW.PrintLast Go.Proofs.YtejdjmcdlbcmeaaDoorW.PrintMore
open Go.Proofs.YtejdjmcdlbcmeaaDoor.R (mkB gapL)

def gapN (n : Int) : Nat := (Int.tmod (wrap64 (Int.tmod n 8 + 8)) 8).toNat
theorem gap_is (n : Int) : depotlaw03_gap.f n = some (mkB (gapL (gapN n))) := by
  have h1 : Int.tmod n 8 < 8 := Int.tmod_lt_of_pos _ (by decide)
  have h2 : -8 < Int.tmod n 8 := Int.lt_tmod_of_pos _ (by decide)
  have hw : wrap64 (Int.tmod n 8 + 8) = Int.tmod n 8 + 8 := by unfold wrap64; omega
  have h3 : Int.tmod (wrap64 (Int.tmod n 8 + 8)) 8 < 8 := Int.tmod_lt_of_pos _ (by decide)
  have h4 : 0 ≤ Int.tmod (wrap64 (Int.tmod n 8 + 8)) 8 := Int.tmod_nonneg _ (by rw [hw]; omega)
  unfold depotlaw03_gap.f gapN
  generalize Int.tmod (wrap64 (Int.tmod n 8 + 8)) 8 = x at h3 h4
  obtain ⟨m, rfl⟩ : ∃ m : Nat, x = m := ⟨x.toNat, by omega⟩
  rw [Int.toNat_natCast]
  have hm : m < 8 := by omega
  match m, hm with
  | 0, _ => rfl
  | 1, _ => rfl
  | 2, _ => rfl
  | 3, _ => rfl
  | 4, _ => rfl
  | 5, _ => rfl
  | 6, _ => rfl
  | 7, _ => rfl
end Go.Proofs.YtejdjmcdlbcmeaaDoor.L
