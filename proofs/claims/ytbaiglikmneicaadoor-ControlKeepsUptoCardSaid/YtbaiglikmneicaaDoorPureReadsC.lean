/- The pure law ControlReads. No conditions. -/
import Derived.Test.YtbaiglikmneicaaDoorSameC
import Derived.Test.YtbaiglikmneicaaDoorERefRead
import Derived.Test.YtbaiglikmneicaaDoorPx0
import Derived.Test.YtbaiglikmneicaaDoorPx4
import Derived.Test.YtbaiglikmneicaaDoorEReadC
import Derived.KernelRfl
set_option linter.unusedVariables false
set_option linter.unusedSimpArgs false
namespace Go.Proofs.YtbaiglikmneicaaDoor.P
open Go.RowKit Go.Lib Go.Proofs.YtbaiglikmneicaaDoorW.PrintWords Go.Proofs.YtbaiglikmneicaaDoorW.PrintLast Go.Proofs.YtbaiglikmneicaaDoorW.PrintMore
open Go.Proofs.YtbaiglikmneicaaDoor.R (mkB mkB_size mkB_data pieces linesA)
open Go.Proofs.YtbaiglikmneicaaDoor.C (fairL)

theorem gap_len (st : CS) (B : Nat) (h1 : ∀ s ∈ st.out, s.f1.length ≤ B) (h2 : st.fs.length ≤ B) : (∀ s ∈ (gapC st).out, s.f1.length ≤ B) ∧ (gapC st).fs.length ≤ st.fs.length ∧ (gapC st).out.length ≤ st.out.length + 1 := by
  unfold gapC
  split
  · exact ⟨h1, Nat.le_refl _, by omega⟩
  · refine ⟨fun s hs => ?_, Nat.zero_le _, by simp⟩
    rcases List.mem_append.1 hs with h | h
    · exact h1 s h
    · obtain rfl := List.mem_singleton.1 h
      exact h2
theorem step_len (st : CS) (a : List UInt8) (n B : Nat) (h1 : ∀ s ∈ st.out, s.f1.length ≤ B) (h2 : st.fs.length ≤ B) : (∀ s ∈ (stepC st a n).1.out, s.f1.length ≤ B) ∧ (stepC st a n).1.fs.length ≤ st.fs.length + 1 ∧ (stepC st a n).1.out.length ≤ st.out.length + 1 := by
  unfold stepC
  split
  · exact ⟨h1, by simp, by simp⟩
  split
  · exact ⟨h1, by simp, by simp⟩
  split
  · have := gap_len st B h1 h2
    exact ⟨this.1, by have := this.2.1; simp only; omega, this.2.2⟩
  split
  · split
    · exact ⟨h1, by simp, by simp⟩
    · refine ⟨h1, ?_, by simp⟩
      show (moreC _ _).length ≤ _
      unfold moreC
      rw [List.length_set]
      omega
  split
  · exact ⟨h1, by simp, by simp⟩
  split
  · exact ⟨h1, by simp, by simp⟩
  · exact ⟨h1, by simp, by simp⟩
theorem rest_len (B : Nat) : ∀ (ls : List (List UInt8)) (st : CS) (n : Nat), (∀ s ∈ st.out, s.f1.length ≤ B) → st.fs.length + ls.length ≤ B → (∀ s ∈ (restC st n ls).1, s.f1.length ≤ B) ∧ (restC st n ls).1.length ≤ st.out.length + ls.length + 1
  | [], st, n, h1, h2 => by
    have := gap_len st B h1 (by simpa using h2)
    rw [restC]
    exact ⟨this.1, by have := this.2.2; simp only [List.length_nil]; omega⟩
  | a :: ls, st, n, h1, h2 => by
    rw [List.length_cons] at h2
    have hs := step_len st a (n + 1) B h1 (by omega)
    rw [restC]
    split
    · have := rest_len B ls (stepC st a (n + 1)).1 (n + 1) hs.1 (by have := hs.2.1; omega)
      refine ⟨this.1, ?_⟩
      have h3 := this.2
      have h4 := hs.2.2
      simp only [List.length_cons]
      omega
    · exact ⟨fun s hs => (by cases hs), by simp⟩
theorem read_len (s : ByteArray) : (∀ x ∈ (readC s).1, x.f1.length ≤ s.size + 1) ∧ (readC s).1.length ≤ s.size + 2 := by
  have h1 := massA_len (linesA s.data.toList)
  have h2 := massA_lines _ s.data.toList rfl
  have h3 : s.data.toList.length = s.size := (size_eq s).symm
  have := rest_len (s.size + 1) (linesA s.data.toList) cs0 0 (fun x hx => by cases hx) (by show 0 + _ ≤ _; omega)
  refine ⟨this.1, ?_⟩
  have h4 := this.2
  show (restC cs0 0 _).1.length ≤ _
  have e : cs0.out.length = 0 := rfl
  omega
end Go.Proofs.YtbaiglikmneicaaDoor.P
