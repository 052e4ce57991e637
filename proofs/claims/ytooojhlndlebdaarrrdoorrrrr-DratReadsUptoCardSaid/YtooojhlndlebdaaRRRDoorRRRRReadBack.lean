/- The text that drat.Write gives is read as the steps that it was given. No conditions. -/
import Derived.Test.YtooojhlndlebdaaRRRDoorRRRRReadT
import Derived.Test.YtooojhlndlebdaaRRRDoorRRRRDratText
set_option linter.unusedVariables false
set_option linter.unusedSimpArgs false
namespace Go.Proofs.YtooojhlndlebdaaRRRDoorRRRR.R
open Go.RowKit Go.Lib Go.Proofs.YtooojhlndlebdaaRRRDoorRRRRW.PrintWords Go.Proofs.YtooojhlndlebdaaRRRDoorRRRRW.PrintLast Go.Proofs.YtooojhlndlebdaaRRRDoorRRRRW.PrintMore

theorem wordsT_cons (x : Int) (l : List Int) : wordsT (x :: l) = itoa x ++ 32 :: wordsT l := by unfold wordsT; simp
theorem stepsT_cons (s : S33) (l : List S33) : stepsT (s :: l) = stepT s ++ stepsT l := by unfold stepsT; simp
theorem midF_lits (r : List UInt8) : ∀ (l : List Int) (st : St) (n : Nat), l.all litOk = true →
    midF st n (wordsT l ++ 48 :: 10 :: r) = restF ⟨st.steps ++ [⟨st.drop, st.lits ++ l⟩], false, false, []⟩ (n + 1) r := by
  intro l
  induction l with
  | nil =>
    intro st n _
    have e : wordsT [] ++ 48 :: 10 :: r = [48] ++ 10 :: r := rfl
    rw [e, midF_word st n [48] (by simp) (by decide) 10 (Or.inl rfl), takeF_0]
    simp only
    rw [midF_nl, List.append_nil]
  | cons x l ih =>
    intro st n h
    rw [List.all_cons, Bool.and_eq_true] at h
    rw [wordsT_cons, List.append_assoc, List.cons_append, midF_word st n (itoa x) (itoa_bytes x).1 (itoa_wordy x) 32 (Or.inr rfl), takeF_lit st x h.1]
    simp only
    rw [midF_blank _ _ 32 rfl, ih _ _ h.2]
    simp
theorem restF_words (r : List UInt8) (l : List Int) (st : St) (n : Nat) (h : l.all litOk = true) :
    restF st n (wordsT l ++ 48 :: 10 :: r) = restF ⟨st.steps ++ [⟨st.drop, st.lits ++ l⟩], false, false, []⟩ (n + 1) r := by
  rw [← midF_lits r l st n h]
  cases l with
  | nil => exact restF_mid st n 48 (by decide) _
  | cons x l =>
    obtain ⟨c, q, e, hc⟩ := itoa_first x
    rw [wordsT_cons, e]
    exact restF_mid st n c hc _
theorem restF_step (r : List UInt8) (s : S33) (st : St) (n : Nat) (h : s.f1.all litOk = true) (hb : st.begun = false) (hd : st.drop = false) (hl : st.lits = []) :
    restF st n (stepT s ++ r) = restF ⟨st.steps ++ [s], false, false, []⟩ (n + 1) r := by
  obtain ⟨d, lits⟩ := s
  unfold stepT headT
  cases d with
  | false =>
    have := restF_words r lits st n h
    rw [hd, hl] at this
    simpa using this
  | true =>
    have e : (if (S33.mk true lits).f0 = true then [(100 : UInt8), 32] else []) ++ wordsT (S33.mk true lits).f1 ++ [48, 10] ++ r = [100] ++ 32 :: (wordsT lits ++ 48 :: 10 :: r) := by simp
    rw [e]
    have e2 : restF st n ([100] ++ 32 :: (wordsT lits ++ 48 :: 10 :: r)) = midF st n ([100] ++ 32 :: (wordsT lits ++ 48 :: 10 :: r)) := restF_mid st n 100 (by decide) _
    rw [e2, midF_word st n [100] (by simp) (by decide) 32 (Or.inr rfl), takeF_d st hb]
    simp only
    rw [midF_blank _ _ 32 rfl, midF_lits r lits _ n h, hl]
    simp
theorem restF_steps (r : List UInt8) : ∀ (l : List S33) (st : St) (n : Nat), (∀ s ∈ l, s.f1.all litOk = true) → st.begun = false → st.drop = false → st.lits = [] →
    restF st n (stepsT l ++ r) = restF ⟨st.steps ++ l, false, false, []⟩ (n + l.length) r := by
  intro l
  induction l with
  | nil =>
    intro st n _ hb hd hl
    obtain ⟨a, b, c, d⟩ := st
    simp only at hb hd hl
    subst hb hd hl
    simp [stepsT]
  | cons s l ih =>
    intro st n h hb hd hl
    rw [stepsT_cons, List.append_assoc, restF_step _ s st n (h s List.mem_cons_self) hb hd hl, ih _ _ (fun x hx => h x (List.mem_cons_of_mem _ hx)) rfl rfl rfl]
    simp only [List.append_assoc, List.singleton_append, List.length_cons]
    rw [show n + 1 + l.length = n + (l.length + 1) by omega]
theorem readF_mkB (t : List UInt8) : readF (mkB t) = restF st0 0 t := by
  unfold readF restF
  rw [mkB_size, mkB_list]
theorem readF_steps (l : List S33) (h : ∀ s ∈ l, s.f1.all litOk = true) : readF (mkB (stepsT l)) = (⟨l, false, false, []⟩, 0) := by
  have := restF_steps [] l st0 0 h rfl rfl rfl
  rw [List.append_nil] at this
  rw [readF_mkB, this, restF_nil]
  rfl
end Go.Proofs.YtooojhlndlebdaaRRRDoorRRRR.R
