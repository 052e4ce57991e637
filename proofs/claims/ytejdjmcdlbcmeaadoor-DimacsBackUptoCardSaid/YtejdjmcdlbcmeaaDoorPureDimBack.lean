/- The pure law DimacsBack: each formula that is well shaped is read as it was written; no other one is written. No conditions. -/
import Derived.Test.YtejdjmcdlbcmeaaDoorTx3
import Derived.Test.YtejdjmcdlbcmeaaDoorSameT
set_option linter.unusedVariables false
set_option linter.unusedSimpArgs false
namespace Go.Proofs.YtejdjmcdlbcmeaaDoor.T
open Go.RowKit Go.Lib Go.Proofs.YtejdjmcdlbcmeaaDoorW.PrintWords Go.Proofs.YtejdjmcdlbcmeaaDoorW.PrintLast Go.Proofs.YtejdjmcdlbcmeaaDoorW.PrintMore
open Go.Proofs.YtejdjmcdlbcmeaaDoor.R (mkB mkB_size readD_form)
open Go.Proofs.YtejdjmcdlbcmeaaDoor.P (formT formOk dimR)

theorem write_is (v : Int) (l : List (List Int)) (hl : l.length ≤ 1048576) (hs : ∀ s ∈ l, s.length ≤ 1048576) : dimacs_Write.f v l = some (dimR v l) := by
  unfold dimacs_Write.f P.dimacs_Write.f
  rw [if_pos ⟨hl, hs⟩]
theorem read_form (v : Int) (l : List (List Int)) (h : formOk v l = true) (hl : l.length ≤ 1048576) (hb : (formT v l).length ≤ 30000000) : dimacs_Read.f (mkB (formT v l)) = some (v, l, 0, 0) := by
  unfold dimacs_Read.f R.dimacs_Read.f
  rw [if_pos (by rw [mkB_size]; omega), readD_form v l h hl]
  rfl
theorem dimacsBack_pure (v : Int) (l : List (List Int)) (hb : Args.massL (fun c : List Int => c.length + 1) l ≤ 1048576) (hl : l.length ≤ 1048576) (hs : ∀ s ∈ l, s.length ≤ 1048576) : ∃ k, depotlaw03_DimacsBack.f k v l = some true := by
  refine ⟨l.length * (1048576 + 2) + l.length + 1048576 + 3, ?_⟩
  unfold depotlaw03_DimacsBack.f
  rw [copyFormula_is v l 1048576 hs (by decide) (by omega) _ (by omega)]
  simp only [Option.bind_some]
  rw [write_is v l hl hs, shaped_is v l 1048576 hs (by decide) (by omega) _ (by omega)]
  simp only [Option.bind_some]
  cases h : formOk v l with
  | true =>
    have e : dimR v l = (mkB (formT v l), 0) := by unfold dimR; rw [if_pos h]; rfl
    rw [e, if_pos rfl]
    simp only
    rw [read_form v l h hl (formT_mass v l h hb)]
    simp only [Option.bind_some]
    rw [if_pos trivial, if_pos trivial, if_pos trivial, sameFormula_self v l 1048576 hs (by decide) (by omega) _ (by omega)]
    rfl
  | false =>
    have e : dimR v l = (⟨#[]⟩, 1) := by unfold dimR; rw [h]; rfl
    rw [e, if_neg (by decide : ¬ false = true), if_pos (show ((⟨#[]⟩, 1) : ByteArray × Int).2 = 1 from rfl)]
    refine congrArg some ?_
    rw [ByteArray.toList_eq]
    rfl
end Go.Proofs.YtejdjmcdlbcmeaaDoor.T
