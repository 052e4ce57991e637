/- The text of literals, of a step, of steps. No conditions. -/
import Derived.Test.YtooojhlndlebdaaRRRDoorRRRRLiteral
import Derived.Lib.ItoaLen
set_option linter.unusedVariables false
set_option linter.unusedSimpArgs false
namespace Go.Proofs.YtooojhlndlebdaaRRRDoorRRRR.R
open Go.RowKit Go.Lib Go.Proofs.YtooojhlndlebdaaRRRDoorRRRRW.PrintWords Go.Proofs.YtooojhlndlebdaaRRRDoorRRRRW.PrintLast Go.Proofs.YtooojhlndlebdaaRRRDoorRRRRW.PrintMore

def wordsT (l : List Int) : List UInt8 := l.flatMap fun x => Lib.itoa x ++ [32]
def headT (b : Bool) : List UInt8 := if b then [100, 32] else []
def stepT (s : S33) : List UInt8 := headT s.f0 ++ wordsT s.f1 ++ [48, 10]
def stepsT (l : List S33) : List UInt8 := l.flatMap stepT
theorem wordsT_snoc (l : List Int) (x : Int) : wordsT (l ++ [x]) = wordsT l ++ (Lib.itoa x ++ [32]) := by unfold wordsT; rw [List.flatMap_append]; simp
theorem stepsT_snoc (l : List S33) (s : S33) : stepsT (l ++ [s]) = stepsT l ++ stepT s := by unfold stepsT; rw [List.flatMap_append]; simp
theorem stepsT_append (l m : List S33) : stepsT (l ++ m) = stepsT l ++ stepsT m := by unfold stepsT; rw [List.flatMap_append]
theorem litOk_range {x : Int} (h : litOk x = true) : -1048576 ≤ x ∧ x ≤ 1048576 := by simp [litOk] at h; omega
theorem wordsT_length (l : List Int) (h : l.all litOk = true) : (wordsT l).length ≤ 22 * l.length := by
  induction l with
  | nil => simp [wordsT]
  | cons x l ih =>
    rw [List.all_cons, Bool.and_eq_true] at h
    have h1 := litOk_range h.1
    have h2 := Lib.itoa_length_le x (by omega) (by omega)
    have h3 := ih h.2
    simp only [wordsT, List.flatMap_cons, List.length_append, List.length_cons, List.length_nil] at h3 ⊢
    omega
def soundS (s : S33) : Bool := s.f1.all litOk
theorem stepsT_length (l : List S33) (m : Nat) (hm : ∀ s ∈ l, s.f1.length ≤ m) (h : ∀ s ∈ l, soundS s = true) : (stepsT l).length ≤ l.length * (22 * m + 4) := by
  induction l with
  | nil => simp [stepsT]
  | cons s l ih =>
    have h1 := ih (fun s hs => hm s (List.mem_cons_of_mem _ hs)) (fun s hs => h s (List.mem_cons_of_mem _ hs))
    have h2 := hm s List.mem_cons_self
    have h3 := wordsT_length s.f1 (h s List.mem_cons_self)
    simp only [stepsT, List.flatMap_cons, List.length_append, List.length_cons] at h1 ⊢
    have : (stepT s).length ≤ 22 * m + 4 := by
      simp only [stepT, headT, List.length_append, List.length_cons, List.length_nil]
      split <;> simp <;> omega
    rw [Nat.add_mul]
    omega
/-- The bulk of steps. -/
def bulkS : List S33 → Nat
  | [] => 0
  | s :: l => s.f1.length + 1 + bulkS l
theorem stepsT_bulk (l : List S33) (h : ∀ s ∈ l, soundS s = true) : (stepsT l).length ≤ 22 * bulkS l := by
  induction l with
  | nil => simp [stepsT]
  | cons s l ih =>
    have h1 := ih (fun s hs => h s (List.mem_cons_of_mem _ hs))
    have h3 := wordsT_length s.f1 (h s List.mem_cons_self)
    simp only [stepsT, List.flatMap_cons, List.length_append, bulkS] at h1 ⊢
    have : (stepT s).length ≤ 22 * s.f1.length + 4 := by
      simp only [stepT, headT, List.length_append, List.length_cons, List.length_nil]
      split <;> simp <;> omega
    omega
def dratR (l : List S33) : ByteArray × Int := if l.all soundS then (⟨(stepsT l).toArray⟩, 0) else (⟨#[]⟩, 1)
end Go.Proofs.YtooojhlndlebdaaRRRDoorRRRR.R
