/- A formula with other blanks, lines and remarks between its words is read as the same formula. No conditions. -/
import Derived.Test.YtejdjmcdlbcmeaaDoorBackD
set_option linter.unusedVariables false
set_option linter.unusedSimpArgs false
namespace Go.Proofs.YtejdjmcdlbcmeaaDoor.R
open Go.RowKit Go.Lib Go.Proofs.YtejdjmcdlbcmeaaDoorW.PrintWords Go.Proofs.YtejdjmcdlbcmeaaDoorW.PrintLast Go.Proofs.YtejdjmcdlbcmeaaDoorW.PrintMore
open Go.Proofs.YtejdjmcdlbcmeaaDoor.P (wordsT clauseT clausesT headF formT litOk inV clauseOk formOk)

/-- What may stand between two words. -/
def gapL : Nat → List UInt8
  | 0 => [32]
  | 1 => [10]
  | 2 => [9, 32, 9]
  | 3 => [32, 10, 10, 99, 32, 49, 32, 48, 32, 120, 10, 9]
  | 4 => [10, 32, 9, 10]
  | 5 => [10, 99, 10]
  | 6 => [32, 32]
  | _ => [10, 99, 110, 102, 32, 13, 32, 55, 10, 10]
/-- No remark begins here. -/
def plainS (r : List UInt8) : Prop := r = [] ∨ ∃ b q, r = b :: q ∧ b ≠ 99
theorem rest_mid (st : FSt) (n : Nat) (hh : st.headed = true) (r : List UInt8) (hr : plainS r) : ∃ m, restD st (n + 1) r = midD st m r := by
  rcases hr with rfl | ⟨b, q, rfl, hb⟩
  · exact ⟨n, (midD_nil st n).symm⟩
  · exact ⟨n + 1, restD_mid st (n + 1) hh b hb q⟩
theorem gap_skip (st : FSt) (hh : st.headed = true) (g n : Nat) (r : List UInt8) (hr : plainS r) : ∃ m, midD st n (gapL g ++ r) = midD st m r := by
  match g with
  | 0 => exact ⟨n, midD_blank st n 32 rfl r⟩
  | 1 =>
    obtain ⟨m, h⟩ := rest_mid st n hh r hr
    exact ⟨m, (midD_nl st n r).trans h⟩
  | 2 => exact ⟨n, (midD_blank st n 9 rfl _).trans ((midD_blank st n 32 rfl _).trans (midD_blank st n 9 rfl r))⟩
  | 3 =>
    refine ⟨n + 3, ?_⟩
    have e : gapL 3 ++ r = 32 :: 10 :: 10 :: (99 :: [32, 49, 32, 48, 32, 120] ++ 10 :: 9 :: r) := rfl
    rw [e, midD_blank st n 32 rfl, midD_nl, restD_nl st (n + 1) hh, restD_rem st (n + 2) [32, 49, 32, 48, 32, 120] (by decide), restD_mid st (n + 3) hh 9 (by decide), midD_blank st (n + 3) 9 rfl]
  | 4 =>
    obtain ⟨m, h⟩ := rest_mid st (n + 1) hh r hr
    refine ⟨m, ?_⟩
    have e : gapL 4 ++ r = 10 :: 32 :: 9 :: 10 :: r := rfl
    rw [e, midD_nl, restD_mid st (n + 1) hh 32 (by decide), midD_blank st (n + 1) 32 rfl, midD_blank st (n + 1) 9 rfl, midD_nl]
    exact h
  | 5 =>
    obtain ⟨m, h⟩ := rest_mid st (n + 1) hh r hr
    refine ⟨m, ?_⟩
    have e : gapL 5 ++ r = 10 :: (99 :: [] ++ 10 :: r) := rfl
    rw [e, midD_nl, restD_rem st (n + 1) [] (by simp)]
    exact h
  | 6 => exact ⟨n, (midD_blank st n 32 rfl _).trans (midD_blank st n 32 rfl r)⟩
  | g + 7 =>
    obtain ⟨m, h⟩ := rest_mid st (n + 2) hh r hr
    refine ⟨m, ?_⟩
    have e : gapL (g + 7) ++ r = 10 :: (99 :: [110, 102, 32, 13, 32, 55] ++ 10 :: 10 :: r) := rfl
    rw [e, midD_nl, restD_rem st (n + 1) [110, 102, 32, 13, 32, 55] (by decide), restD_nl st (n + 2) hh]
    exact h
/-- Numbers, each with a gap behind it; g says which gap stands behind the k-th word. -/
def looseW (g : Nat → Nat) : List Int → Nat → List UInt8
  | [], _ => []
  | x :: r, k => itoa x ++ (gapL (g k) ++ looseW g r (k + 1))
theorem loose_plain (g : Nat → Nat) (l : List Int) (k : Nat) : plainS (looseW g l k) := by
  cases l with
  | nil => exact Or.inl rfl
  | cons x r =>
    obtain ⟨b, q, e, hb⟩ := itoa_first x
    exact Or.inr ⟨b, q ++ (gapL (g k) ++ looseW g r (k + 1)), by show itoa x ++ _ = _; rw [e]; rfl, hb⟩
theorem gap_head (g : Nat) : ∃ b q, gapL g = b :: q ∧ (b = 10 ∨ blankR b.toNat = true) := by
  match g with
  | 0 => exact ⟨_, _, rfl, Or.inr rfl⟩
  | 1 => exact ⟨_, _, rfl, Or.inl rfl⟩
  | 2 => exact ⟨_, _, rfl, Or.inr rfl⟩
  | 3 => exact ⟨_, _, rfl, Or.inr rfl⟩
  | 4 => exact ⟨_, _, rfl, Or.inl rfl⟩
  | 5 => exact ⟨_, _, rfl, Or.inl rfl⟩
  | 6 => exact ⟨_, _, rfl, Or.inr rfl⟩
  | g + 7 => exact ⟨_, _, rfl, Or.inl rfl⟩
theorem loose_word (g : Nat → Nat) (st st' : FSt) (hh : st.headed = true) (hh' : st'.headed = true) (x : Int) (r : List Int) (n k : Nat) (hw : wordD st (mkB (itoa x)) = (st', 0)) :
    ∃ m, midD st n (looseW g (x :: r) k) = midD st' m (looseW g r (k + 1)) := by
  obtain ⟨b, q, e, hb⟩ := gap_head (g k)
  obtain ⟨m, hm⟩ := gap_skip st' hh' (g k) n (looseW g r (k + 1)) (loose_plain g r (k + 1))
  refine ⟨m, ?_⟩
  have e2 : looseW g (x :: r) k = itoa x ++ (gapL (g k) ++ looseW g r (k + 1)) := rfl
  rw [e] at hm e2
  rw [e2, List.cons_append, midD_word st n (itoa x) (itoa_bytes x).1 (itoa_wordy x) b hb, hw]
  simp only
  rw [if_pos trivial]
  exact hm
theorem loose_clause (g : Nat → Nat) (r : List Int) : ∀ (c : List Int) (st : FSt) (n k : Nat), st.headed = true → c.all litOk = true → c.all (inV st.vars) = true →
    ∃ m j, midD st n (looseW g (c ++ 0 :: r) k) = midD ⟨st.headed, st.count, st.vars, st.cls ++ [st.opn ++ c], []⟩ m (looseW g r j) := by
  intro c
  induction c with
  | nil =>
    intro st n k hh _ _
    obtain ⟨m, h⟩ := loose_word g st ⟨st.headed, st.count, st.vars, st.cls ++ [st.opn], []⟩ hh hh 0 r n k (by rw [itoa_0]; exact wordD_0 st)
    exact ⟨m, k + 1, by rw [List.append_nil]; exact h⟩
  | cons x c ih =>
    intro st n k hh h1 h2
    rw [List.all_cons, Bool.and_eq_true] at h1 h2
    obtain ⟨m, h⟩ := loose_word g st ⟨st.headed, st.count, st.vars, st.cls, st.opn ++ [x]⟩ hh hh x (c ++ 0 :: r) n k (wordD_lit st x h1.1 h2.1)
    obtain ⟨m', j, h'⟩ := ih ⟨st.headed, st.count, st.vars, st.cls, st.opn ++ [x]⟩ m (k + 1) hh h1.2 h2.2
    refine ⟨m', j, h.trans (h'.trans ?_)⟩
    simp
/-- The clauses' words in one row. -/
def flatW (l : List (List Int)) : List Int := l.flatMap fun c => c ++ [0]
theorem loose_clauses (g : Nat → Nat) : ∀ (l : List (List Int)) (st : FSt) (n k : Nat), st.headed = true → st.opn = [] → l.all (clauseOk st.vars) = true →
    ∃ m j, midD st n (looseW g (flatW l) k) = midD ⟨st.headed, st.count, st.vars, st.cls ++ l, []⟩ m (looseW g [] j) := by
  intro l
  induction l with
  | nil =>
    intro st n k hh ho _
    obtain ⟨a, b, c, d, e⟩ := st
    simp only at ho
    subst ho
    exact ⟨n, k, by simp [flatW]⟩
  | cons c l ih =>
    intro st n k hh ho h
    rw [List.all_cons, Bool.and_eq_true] at h
    have hc := h.1
    unfold clauseOk at hc
    rw [Bool.and_eq_true] at hc
    have e : flatW (c :: l) = c ++ 0 :: flatW l := by unfold flatW; simp
    obtain ⟨m, j, h1⟩ := loose_clause g (flatW l) c st n k hh hc.1 hc.2
    obtain ⟨m', j', h2⟩ := ih ⟨st.headed, st.count, st.vars, st.cls ++ [st.opn ++ c], []⟩ m j hh rfl h.2
    refine ⟨m', j', ?_⟩
    rw [e, h1, h2, ho]
    simp
end Go.Proofs.YtejdjmcdlbcmeaaDoor.R
