/- The size of a list of stanzas. No conditions. -/
import Derived.Test.YtbaiglikmneicaaDoorSameC
import Derived.Test.YtbaiglikmneicaaDoorArgs
set_option linter.unusedVariables false
set_option linter.unusedSimpArgs false
namespace Go.Proofs.YtbaiglikmneicaaDoor.P
open Go.RowKit Go.Lib Go.Proofs.YtbaiglikmneicaaDoorW.PrintWords Go.Proofs.YtbaiglikmneicaaDoorW.PrintLast Go.Proofs.YtbaiglikmneicaaDoorW.PrintMore

def massF (fs : List S50) : Nat := Args.massL (fun f : S50 => f.f0.size + f.f1.size + 1) fs
def massS (l : List S41) : Nat := Args.massL (fun s : S41 => massF s.f1 + 1) l
theorem massL_app {α : Type} (m : α → Nat) : ∀ a b : List α, Args.massL m (a ++ b) = Args.massL m a + Args.massL m b
  | [], b => by simp [Args.massL]
  | x :: a, b => by simp only [List.cons_append, Args.massL, massL_app m a b]; omega
theorem massL_take {α : Type} (m : α → Nat) (xs : List α) (n : Nat) : Args.massL m (xs.take n) ≤ Args.massL m xs := by
  conv => rhs; rw [← List.take_append_drop n xs]
  rw [massL_app]
  omega
theorem few_mass : ∀ l : List S41, massS (fewL l) ≤ massS l
  | [] => Nat.le_refl _
  | s :: l => by
    have h1 := massL_take (fun f : S50 => f.f0.size + f.f1.size + 1) s.f1 2000
    have h2 := few_mass l
    have e1 : massS (s :: l) = (massF s.f1 + 1) + massS l := rfl
    have e2 : massS (fewL (s :: l)) = (massF (s.f1.take 2000) + 1) + massS (fewL l) := rfl
    have h3 : massF (s.f1.take 2000) ≤ massF s.f1 := h1
    omega
theorem mass_all {l : List S41} {B : Nat} (h : massS l ≤ B) : l.length ≤ B ∧ ∀ s ∈ l, s.f1.length ≤ B ∧ ∀ f ∈ s.f1, smallF B f := by
  have h1 := Args.massL_len (m := fun s : S41 => massF s.f1 + 1) (fun _ => Nat.le_add_left _ _) l
  refine ⟨Nat.le_trans h1 h, fun s hs => ?_⟩
  have h2 := Args.massL_mem (m := fun s : S41 => massF s.f1 + 1) hs
  have h3 := Args.massL_len (m := fun f : S50 => f.f0.size + f.f1.size + 1) (fun _ => Nat.le_add_left _ _) s.f1
  have h4 : massF s.f1 + 1 ≤ massS l := h2
  have h5 : s.f1.length ≤ massF s.f1 := h3
  refine ⟨by omega, fun f hf => ?_⟩
  have h6 : f.f0.size + f.f1.size + 1 ≤ massF s.f1 := Args.massL_mem (m := fun f : S50 => f.f0.size + f.f1.size + 1) hf
  exact ⟨by omega, by omega⟩
end Go.Proofs.YtbaiglikmneicaaDoor.P
