/- The pure law DratJoins: two texts behind one another are that of both lists. No conditions. -/
import Derived.Test.YtooojhlndlebdaaRRRDoorRRRRRBxJ
import Derived.Test.YtooojhlndlebdaaRRRDoorRRRRPureDratBack
set_option linter.unusedVariables false
set_option linter.unusedSimpArgs false
namespace Go.Proofs.YtooojhlndlebdaaRRRDoorRRRR.R
open Go.RowKit Go.Lib Go.Proofs.YtooojhlndlebdaaRRRDoorRRRRW.PrintWords Go.Proofs.YtooojhlndlebdaaRRRDoorRRRRW.PrintLast Go.Proofs.YtooojhlndlebdaaRRRDoorRRRRW.PrintMore

theorem dratJoins_pure (a b : List S33) (hab : bulkS a + bulkS b ≤ 1048576) : ∃ k, depotlaw09_DratJoins.f k a b = some true := by
  obtain ⟨K, hK⟩ : ∃ K : Nat, 10000000000000 < K := ⟨10000000000001, by omega⟩
  refine ⟨K + 1, ?_⟩
  have hla := bulkS_len a
  have hlb := bulkS_len b
  have hma : ∀ s ∈ a, s.f1.length ≤ 1048576 := fun s hs => by have := bulkS_mem hs; omega
  have hmb : ∀ s ∈ b, s.f1.length ≤ 1048576 := fun s hs => by have := bulkS_mem hs; omega
  have hbb : bulkS (a ++ b) ≤ 1048576 := by rw [bulkS_append]; omega
  have hmab : ∀ s ∈ a ++ b, s.f1.length ≤ 1048576 := fun s hs => by have := bulkS_mem hs; omega
  unfold depotlaw09_DratJoins.f
  rw [soundL_is a hma (by omega) _ (by omega)]
  simp only [Option.bind_some]
  cases ha : a.all soundS with
  | false => rw [if_neg (by decide), depotlaw09_DratJoins.j0, if_pos rfl]
  | true =>
    rw [if_pos rfl, soundL_is b hmb (by omega) _ (by omega)]
    simp only [Option.bind_some]
    cases hb : b.all soundS with
    | false => rw [Bool.not_false, depotlaw09_DratJoins.j0, if_pos rfl]
    | true =>
      have hs : (a ++ b).all soundS = true := by rw [all_app, ha, hb]; rfl
      have hlena := stepsT_bulk a (fun s hs => List.all_eq_true.1 ha s hs)
      have hlenb := stepsT_bulk b (fun s hs => List.all_eq_true.1 hb s hs)
      rw [Bool.not_true, depotlaw09_DratJoins.j0, if_neg (by decide), copySteps_is a 1048576 hma (by omega) (by omega) K (by omega)]
      simp only [Option.bind_some]
      rw [write_is a (by omega), dratR_yes ha]
      simp only [Option.bind_some]
      rw [copySteps_is b 1048576 hmb (by omega) (by omega) K (by omega)]
      simp only [Option.bind_some]
      rw [write_is b (by omega), dratR_yes hb]
      simp only [Option.bind_some]
      rw [if_pos (by omega), write_is (a ++ b) hbb, dratR_yes hs]
      simp only [Option.bind_some]
      rw [if_pos (by rw [mkB_size, mkB_size]; omega), mkB_append, ← stepsT_append, read_steps (a ++ b) hbb hs]
      simp only [Option.bind_some]
      rw [if_pos trivial, if_pos trivial, if_pos trivial, if_pos trivial, if_pos trivial, if_pos trivial, sameSteps_self _ 1048576 hmab (by omega) (by rw [List.length_append]; omega) K (by rw [List.length_append]; omega)]
      rfl
end Go.Proofs.YtooojhlndlebdaaRRRDoorRRRR.R
