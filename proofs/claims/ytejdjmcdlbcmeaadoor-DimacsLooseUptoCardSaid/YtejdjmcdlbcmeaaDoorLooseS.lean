/- The loose text grows word by word; its length. No conditions. -/
import Derived.Test.YtejdjmcdlbcmeaaDoorLooseR
set_option linter.unusedVariables false
set_option linter.unusedSimpArgs false
namespace Go.Proofs.YtejdjmcdlbcmeaaDoor.R
open Go.RowKit Go.Lib Go.Proofs.YtejdjmcdlbcmeaaDoorW.PrintWords Go.Proofs.YtejdjmcdlbcmeaaDoorW.PrintLast Go.Proofs.YtejdjmcdlbcmeaaDoorW.PrintMore
open Go.Proofs.YtejdjmcdlbcmeaaDoor.P (litOk inV clauseOk formOk litOk_range)

theorem looseW_append (g : Nat → Nat) (b : List Int) : ∀ (a : List Int) (k : Nat), looseW g (a ++ b) k = looseW g a k ++ looseW g b (k + a.length) := by
  intro a
  induction a with
  | nil => intro k; rfl
  | cons x a ih =>
    intro k
    show itoa x ++ (gapL (g k) ++ looseW g (a ++ b) (k + 1)) = (itoa x ++ (gapL (g k) ++ looseW g a (k + 1))) ++ _
    rw [ih, List.length_cons, show k + (a.length + 1) = k + 1 + a.length by omega]
    simp
theorem looseW_snoc (g : Nat → Nat) (a : List Int) (x : Int) (k : Nat) : looseW g (a ++ [x]) k = looseW g a k ++ (itoa x ++ gapL (g (k + a.length))) := by
  rw [looseW_append]
  have e : looseW g [x] (k + a.length) = itoa x ++ (gapL (g (k + a.length)) ++ []) := rfl
  rw [e, List.append_nil]
theorem gapL_length (n : Nat) : (gapL n).length ≤ 12 := by
  match n with
  | 0 => decide
  | 1 => decide
  | 2 => decide
  | 3 => decide
  | 4 => decide
  | 5 => decide
  | 6 => decide
  | n + 7 => show 10 ≤ 12; decide
theorem looseW_length (g : Nat → Nat) : ∀ (a : List Int) (k : Nat), (∀ x ∈ a, x = 0 ∨ litOk x = true) → (looseW g a k).length ≤ 40 * a.length := by
  intro a
  induction a with
  | nil => intro k _; exact Nat.zero_le _
  | cons x a ih =>
    intro k h
    have h1 := ih (k + 1) (fun y hy => h y (List.mem_cons_of_mem _ hy))
    have h2 := gapL_length (g k)
    have hx : -1048576 ≤ x ∧ x ≤ 1048576 := by
      rcases h x List.mem_cons_self with h | h
      · omega
      · exact litOk_range h
    have h3 := Lib.itoa_length_le x (by omega) (by omega)
    show (itoa x ++ (gapL (g k) ++ looseW g a (k + 1))).length ≤ _
    rw [List.length_append, List.length_append, List.length_cons]
    omega
theorem looseH_length (v : Int) (m : Nat) (h0 : 0 ≤ v) (h1 : v ≤ 1048576) (hm : m ≤ 1048576) : (looseH v m).length ≤ 100 := by
  have a := Lib.itoa_length_le v (by omega) (by omega)
  have b := Lib.itoa_length_le (m : Int) (by omega) (by omega)
  simp only [looseH, List.length_append, List.length_cons, List.length_nil]
  omega
theorem flatW_cons (c : List Int) (l : List (List Int)) : flatW (c :: l) = (c ++ [0]) ++ flatW l := by unfold flatW; simp
theorem flatW_snoc (l : List (List Int)) (c : List Int) : flatW (l ++ [c]) = flatW l ++ (c ++ [0]) := by unfold flatW; rw [List.flatMap_append]; simp
end Go.Proofs.YtejdjmcdlbcmeaaDoor.R
