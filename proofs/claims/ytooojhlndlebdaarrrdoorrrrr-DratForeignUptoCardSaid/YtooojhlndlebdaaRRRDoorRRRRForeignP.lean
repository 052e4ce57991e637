/- DratForeign's text: refused at the foreign word's line; the steps ahead of it are read. No conditions. -/
import Derived.Test.YtooojhlndlebdaaRRRDoorRRRRWriteR
import Derived.KernelRfl
set_option linter.unusedVariables false
set_option linter.unusedSimpArgs false
namespace Go.Proofs.YtooojhlndlebdaaRRRDoorRRRR.R
open Go.RowKit Go.Lib Go.Proofs.YtooojhlndlebdaaRRRDoorRRRRW.PrintWords Go.Proofs.YtooojhlndlebdaaRRRDoorRRRRW.PrintLast Go.Proofs.YtooojhlndlebdaaRRRDoorRRRRW.PrintMore

theorem read_foreign (a : List S33) (ha : ∀ s ∈ a, s.f1.all litOk = true) (fw : List UInt8) (hw : fw ≠ []) (hb : ∀ c ∈ fw, blankR c.toNat = false ∧ c ≠ 10) (ht : ∀ a : List S33, takeF ⟨a, true, false, [1]⟩ (mkB fw) = none) (t : List UInt8) :
    readF (mkB (stepsT a ++ 49 :: 32 :: (fw ++ 32 :: 48 :: 10 :: t))) = (⟨a, true, false, [1]⟩, a.length + 1) := by
  rw [readF_mkB, restF_steps _ a st0 0 ha rfl rfl rfl, restF_mid _ _ 49 (by decide)]
  have h1 := midF_word (⟨st0.steps ++ a, false, false, []⟩ : St) (0 + a.length) [49] (by decide) (by decide) 32 (.inr (by decide)) (fw ++ 32 :: 48 :: 10 :: t)
  have h2 := takeF_lit (⟨st0.steps ++ a, false, false, []⟩ : St) 1 (by decide)
  rw [show itoa 1 = [49] by kernel_rfl] at h2
  rw [h2] at h1
  rw [show (49 : UInt8) :: 32 :: (fw ++ 32 :: 48 :: 10 :: t) = [49] ++ 32 :: (fw ++ 32 :: 48 :: 10 :: t) from rfl, h1]
  simp only
  rw [midF_blank _ _ 32 (by decide), midF_word _ _ fw hw hb 32 (.inr (by decide))]
  have h3 := ht a
  simp only [List.nil_append, show st0.steps = [] from rfl]
  rw [h3]
  simp
def fwords : List (List UInt8) := [[120], [43, 49], [45, 48], [48, 49], [49, 46], [100], [49, 48, 52, 56, 53, 55, 55], [45, 49, 48, 52, 56, 53, 55, 55], [45], [57, 57, 57, 57, 57, 57, 57, 57, 57, 57, 57, 57, 57, 57, 57, 57, 57, 57, 57, 57], [49, 13], [48, 48], [68], [100, 100], [99]]
theorem fw_ok : ∀ fw ∈ fwords, fw ≠ [] ∧ (∀ c ∈ fw, blankR c.toNat = false ∧ c ≠ 10) ∧ fw.length ≤ 20 ∧ ∀ a : List S33, takeF ⟨a, true, false, [1]⟩ (mkB fw) = none := by
  intro fw h
  simp only [fwords, List.mem_cons, List.not_mem_nil, or_false] at h
  rcases h with rfl | rfl | rfl | rfl | rfl | rfl | rfl | rfl | rfl | rfl | rfl | rfl | rfl | rfl | rfl <;> exact ⟨by decide, by decide, by decide, fun a => by kernel_rfl⟩
end Go.Proofs.YtooojhlndlebdaaRRRDoorRRRR.R
