/- The pure law DratReads: for every text of at most 1048576 bytes the law's function comes to true. No conditions. -/
import Derived.Test.YtooojhlndlebdaaRRRDoorRRRRRx6
import Derived.Test.YtooojhlndlebdaaRRRDoorRRRRWriteR
set_option linter.unusedVariables false
set_option linter.unusedSimpArgs false
namespace Go.Proofs.YtooojhlndlebdaaRRRDoorRRRR.R
open Go.RowKit Go.Lib Go.Proofs.YtooojhlndlebdaaRRRDoorRRRRW.PrintWords Go.Proofs.YtooojhlndlebdaaRRRDoorRRRRW.PrintLast Go.Proofs.YtooojhlndlebdaaRRRDoorRRRRW.PrintMore

/-- How long what is read may be. -/
theorem takesF_bound (ws : List ByteArray) : ∀ (st : St) (m : Nat), (∀ s ∈ st.steps, s.f1.length ≤ m) → st.lits.length ≤ m → (∀ s ∈ (takesF st ws).1.steps, s.f1.length ≤ m + ws.length) ∧ (takesF st ws).1.lits.length ≤ m + ws.length := by
  induction ws with
  | nil => intro st m h1 h2; simpa [takesF] using ⟨h1, h2⟩
  | cons w r ih =>
    intro st m h1 h2
    simp only [takesF]
    cases h : takeF st w with
    | none => exact ⟨fun s hs => by have := h1 s hs; simp only [List.length_cons]; omega, by simp only [List.length_cons]; omega⟩
    | some st' =>
      have h3 : (∀ s ∈ st'.steps, s.f1.length ≤ m + 1) ∧ st'.lits.length ≤ m + 1 := by
        unfold takeF at h
        split at h
        · obtain rfl := Option.some.inj h
          exact ⟨fun s hs => by have := h1 s hs; omega, by simp only; omega⟩
        · split at h
          · obtain rfl := Option.some.inj h
            refine ⟨fun s hs => ?_, by simp⟩
            rcases List.mem_append.1 hs with hs | hs
            · have := h1 s hs; omega
            · rw [List.mem_singleton.1 hs]
              exact Nat.le_succ_of_le h2
          · split at h
            · obtain rfl := Option.some.inj h
              exact ⟨fun s hs => by have := h1 s hs; omega, by simp; omega⟩
            · cases h
      have := ih st' (m + 1) h3.1 h3.2
      simp only [List.length_cons]
      exact ⟨fun s hs => by have := this.1 s hs; omega, by omega⟩
theorem lineF_bound (st : St) (a : List UInt8) (m : Nat) (h1 : ∀ s ∈ st.steps, s.f1.length ≤ m) (h2 : st.lits.length ≤ m) : (∀ s ∈ (lineF st a).1.steps, s.f1.length ≤ m + a.length + 1) ∧ (lineF st a).1.lits.length ≤ m + a.length + 1 ∧ (lineF st a).1.steps.length ≤ st.steps.length + a.length + 1 := by
  unfold lineF
  split
  · exact ⟨fun s hs => by have := h1 s hs; omega, by simp only; omega, by simp only; omega⟩
  · have hw := wordsB_length (mk_ a)
    have hz := mk_size a
    have h3 := takesF_bound (wordsB (mk_ a)) st m h1 h2
    have h4 := takesF_length (wordsB (mk_ a)) st
    exact ⟨fun s hs => by have := h3.1 s hs; omega, by omega, by omega⟩
theorem linesF_bound (L : List (List UInt8)) (M : Nat) (hM : ∀ a ∈ L, a.length ≤ M) : ∀ (n : Nat) (st : St) (m : Nat), (∀ s ∈ st.steps, s.f1.length ≤ m) → st.lits.length ≤ m →
    (∀ s ∈ (linesF L n st).1.steps, s.f1.length ≤ m + L.length * (M + 1)) ∧ (linesF L n st).1.steps.length ≤ st.steps.length + L.length * (M + 1) := by
  induction L with
  | nil => intro n st m h1 h2; simpa [linesF] using h1
  | cons a r ih =>
    intro n st m h1 h2
    have ha := hM a List.mem_cons_self
    have hb := lineF_bound st a m h1 h2
    have e : (a :: r).length * (M + 1) = r.length * (M + 1) + (M + 1) := by rw [List.length_cons, Nat.add_mul, Nat.one_mul]
    rw [e]
    simp only [linesF]
    split
    · have := ih (fun x hx => hM x (List.mem_cons_of_mem _ hx)) (n + 1) (lineF st a).1 (m + a.length + 1) hb.1 hb.2.1
      exact ⟨fun s hs => by have := this.1 s hs; omega, by omega⟩
    · exact ⟨fun s hs => by have := hb.1 s hs; omega, by simp only; omega⟩
theorem readF_bound (s : ByteArray) (hs : s.size ≤ 1048576) : (∀ x ∈ (readF s).1.steps, x.f1.length ≤ 1099512676352) ∧ (readF s).1.steps.length ≤ 1099512676352 := by
  have hsz : s.data.toList.length = s.size := by simp
  have hl := linesL_length s.size s.data.toList
  have h := linesF_bound (linesL s.size s.data.toList) 1048576 (fun x hx => by have := linesL_mem _ _ x hx; omega) 0 st0 0 (by simp [st0]) (by simp [st0])
  have hb : (linesL s.size s.data.toList).length * (1048576 + 1) ≤ 1099512676352 := Nat.le_trans (Nat.mul_le_mul_right _ (Nat.le_trans hl hs)) (by decide)
  have e0 : st0.steps.length = 0 := rfl
  unfold readF
  exact ⟨fun x hx => by have := h.1 x hx; omega, by omega⟩
theorem itoa_1 : itoa 1 = [49] := by
  have : itoa 1 = decDigits 1 := by unfold itoa; rw [if_neg (by decide)]; rfl
  rw [this, dec_lt (by decide)]
  rfl
theorem read_one : readF (⟨#[100, 32, 49, 32, 48]⟩ : ByteArray) = (⟨[⟨true, [1]⟩], false, false, []⟩, 0) := by
  have e : (⟨#[100, 32, 49, 32, 48]⟩ : ByteArray) = mkB ([100] ++ 32 :: ([49] ++ 32 :: [48])) := rfl
  rw [e, readF_mkB]
  have e2 : restF st0 0 ([100] ++ 32 :: ([49] ++ 32 :: [48])) = midF st0 0 ([100] ++ 32 :: ([49] ++ 32 :: [48])) := restF_mid st0 0 100 (by decide) _
  rw [e2, midF_word st0 0 [100] (by simp) (by decide) 32 (Or.inr rfl), takeF_d st0 rfl]
  simp only
  rw [midF_blank _ _ 32 rfl, midF_word _ 0 [49] (by simp) (by decide) 32 (Or.inr rfl)]
  have ht := takeF_lit ⟨st0.steps, true, true, st0.lits⟩ 1 rfl
  rw [itoa_1] at ht
  rw [ht]
  simp only
  rw [midF_blank _ _ 32 rfl, midF_last _ 0 [48] (by simp) (by decide), takeF_0]
  simp only
  rw [restF_nil]
  rfl
theorem dratReads_pure (s : ByteArray) (hs : s.size ≤ 1048576) : ∃ k, depotlaw09_DratReads.f k s = some true := by
  obtain ⟨K, hK⟩ : ∃ K : Nat, 10000000000000 < K := ⟨10000000000001, by omega⟩
  refine ⟨K, ?_⟩
  have hb := readF_bound s hs
  obtain ⟨st, line, hr⟩ : ∃ st line, readF s = (st, line) := ⟨_, _, rfl⟩
  rw [hr] at hb
  have e1 : drat_Read.f s = if line = 0 then some (st.steps, 0, 0) else some ([], 90, (line : Int)) := by
    unfold drat_Read.f
    rw [if_pos (by omega), hr]
  have e2 : depotref09_Read.f K s = if line = 0 then some (st.steps, 0, 0) else some ([], 90, (line : Int)) := by
    unfold depotref09_Read.f
    rw [parse_is s hs K (by omega), hr]
    simp only [Option.bind_some]
    by_cases h : line = 0
    · rw [if_pos h, if_neg (by omega)]
    · rw [if_neg h, if_pos (by omega)]
  have e3 : drat_Read.f (⟨#[100, 32, 49, 32, 48]⟩ : ByteArray) = some ([⟨true, [1]⟩], 0, 0) := by
    unfold drat_Read.f
    rw [if_pos (by decide), read_one]
    rfl
  have fin : ∀ x : List S33 × Int × Int, (∀ s ∈ x.1, s.f1.length ≤ 1099512676352) → x.1.length ≤ 1099512676352 → drat_Read.f s = some x → depotref09_Read.f K s = some x → depotlaw09_DratReads.f K s = some true := by
    intro x h1 h2 h3 h4
    unfold depotlaw09_DratReads.f
    rw [h3, h4, e3]
    simp only [Option.bind_some]
    rw [if_pos trivial, if_pos trivial, sameSteps_self _ 1099512676352 h1 (by omega) (by omega) K (by omega)]
    simp only [Option.bind_some]
    rw [if_pos trivial, if_pos trivial, if_pos (by decide), if_pos (by decide)]
    rfl
  by_cases h : line = 0
  · rw [if_pos h] at e1 e2
    exact fin _ hb.1 hb.2 e1 e2
  · rw [if_neg h] at e1 e2
    exact fin _ (by simp) (by simp) e1 e2
end Go.Proofs.YtooojhlndlebdaaRRRDoorRRRR.R
