/- Blanks at the ends, cuts at a byte, lines and pieces: plain laws on lists of bytes. No conditions. -/
import Derived.Test.YtbaiglikmneicaaDoorELibC
set_option linter.unusedVariables false
set_option linter.unusedSimpArgs false
namespace Go.Proofs.YtbaiglikmneicaaDoor.P
open Go.Lib
open Go.Proofs.YtbaiglikmneicaaDoor.R (mkB mkB_size mkB_data pieces linesA linesA_nil linesA_cons cut_cons)
open Go.Proofs.YtbaiglikmneicaaDoor.C (fairL okC)

def blankB (b : UInt8) : Bool := blanksC.contains b
theorem blankB_iff (b : UInt8) : blankB b = true ↔ b = 32 ∨ b = 9 := by unfold blankB blanksC; simp
theorem drop_head {q : UInt8 → Bool} : ∀ {l : List UInt8}, (∀ b, l.head? = some b → q b = false) → l.dropWhile q = l
  | [], _ => rfl
  | b :: l, h => by rw [List.dropWhile_cons_of_neg (by rw [h b rfl]; decide)]
theorem last_drop (q : UInt8 → Bool) : ∀ (l : List UInt8) (b : UInt8), (l.dropWhile q).getLast? = some b → l.getLast? = some b
  | [], b, h => by simp at h
  | c :: l, b, h => by
    cases hq : q c with
    | true =>
      rw [List.dropWhile_cons_of_pos hq] at h
      have := last_drop q l b h
      cases l with
      | nil => simp at this
      | cons d l => rw [List.getLast?_cons_cons]; exact this
    | false =>
      rw [List.dropWhile_cons_of_neg (by rw [hq]; decide)] at h
      exact h
theorem trimC_eq (l : List UInt8) : trimC l = (l.reverse.dropWhile blankB).reverse.dropWhile blankB := rfl
theorem mem_take (q : UInt8 → Bool) : ∀ (l : List UInt8) (b : UInt8), b ∈ l.takeWhile q → q b = true
  | [], b, h => by cases h
  | c :: l, b, h => by
    cases hq : q c with
    | true =>
      rw [List.takeWhile_cons_of_pos hq] at h
      rcases List.mem_cons.1 h with rfl | h
      · exact hq
      · exact mem_take q l b h
    | false => rw [List.takeWhile_cons_of_neg (by rw [hq]; decide)] at h; cases h
theorem trim_parts (l : List UInt8) : ∃ x y, l = x ++ trimC l ++ y ∧ (∀ b ∈ x, blankB b = true) ∧ (∀ b ∈ y, blankB b = true) := by
  have h1 := List.takeWhile_append_dropWhile (p := blankB) (l := l.reverse)
  have h2 := List.takeWhile_append_dropWhile (p := blankB) (l := (l.reverse.dropWhile blankB).reverse)
  refine ⟨(l.reverse.dropWhile blankB).reverse.takeWhile blankB, (l.reverse.takeWhile blankB).reverse, ?_, fun b hb => ?_, fun b hb => ?_⟩
  · rw [trimC_eq, h2, ← List.reverse_append, h1, List.reverse_reverse]
  · exact mem_take _ _ _ hb
  · exact mem_take _ _ _ (List.mem_reverse.1 hb)
end Go.Proofs.YtbaiglikmneicaaDoor.P
