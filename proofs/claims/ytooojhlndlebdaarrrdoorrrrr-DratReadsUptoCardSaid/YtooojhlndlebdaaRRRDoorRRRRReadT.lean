/- Reading a text word by word: what is left to read at a line's start and inside a line; the writer's text is read as its steps. No conditions. -/
import Derived.Test.YtooojhlndlebdaaRRRDoorRRRRReadW
import Derived.Test.YtooojhlndlebdaaRRRDoorRRRRWordsL
set_option linter.unusedVariables false
set_option linter.unusedSimpArgs false
namespace Go.Proofs.YtooojhlndlebdaaRRRDoorRRRR.R
open Go.RowKit Go.Lib Go.Proofs.YtooojhlndlebdaaRRRDoorRRRRW.PrintWords Go.Proofs.YtooojhlndlebdaaRRRDoorRRRRW.PrintLast Go.Proofs.YtooojhlndlebdaaRRRDoorRRRRW.PrintMore

theorem first10 : ∀ l : List UInt8, (∀ j : Nat, l[j]? ≠ some 10) ∨ ∃ n : Nat, (∀ j : Nat, j < n → l[j]? ≠ some 10) ∧ l[n]? = some 10
  | [] => Or.inl (by simp)
  | b :: l => by
    by_cases hb : b = 10
    · exact Or.inr ⟨0, fun j h => by omega, by simp [hb]⟩
    · rcases first10 l with h | ⟨n, h1, h2⟩
      · refine Or.inl fun j => ?_
        cases j with
        | zero => simpa using hb
        | succ j => simpa using h j
      · refine Or.inr ⟨n + 1, fun j hj => ?_, by simpa using h2⟩
        cases j with
        | zero => simpa using hb
        | succ j => simpa using h1 j (by omega)
theorem cut_cons (b : UInt8) (l : List UInt8) : cut (b :: l) [10] = if b = 10 then ([], l, true) else (b :: (cut l [10]).1, (cut l [10]).2.1, (cut l [10]).2.2) := by
  by_cases hb : b = 10
  · rw [if_pos hb, cut_at (b :: l) 0 (fun j h => by omega) (by simp [hb])]
    simp
  · rw [if_neg hb]
    rcases first10 l with h | ⟨n, h1, h2⟩
    · rw [cut_no l h, cut_no (b :: l) (fun j => by
        cases j with
        | zero => simpa using hb
        | succ j => simpa using h j)]
    · rw [cut_at l n h1 h2, cut_at (b :: l) (n + 1) (fun j hj => by
        cases j with
        | zero => simpa using hb
        | succ j => simpa using h1 j (by omega)) (by simpa using h2)]
      simp
theorem cut_nil : cut ([] : List UInt8) [10] = ([], [], false) := cut_no [] (by simp)
theorem cut_run (w : List UInt8) (l : List UInt8) : (∀ c ∈ w, c ≠ 10) → cut (w ++ l) [10] = (w ++ (cut l [10]).1, (cut l [10]).2.1, (cut l [10]).2.2) := by
  induction w with
  | nil => intro _; rfl
  | cons c w ih =>
    intro h
    rw [List.cons_append, cut_cons, if_neg (h c List.mem_cons_self), ih (fun x hx => h x (List.mem_cons_of_mem _ hx))]
    rfl
/-- What is left to read inside a line. -/
def midF (st : St) (n : Nat) (l : List UInt8) : St × Nat :=
  if (takesF st ((wordsL [] (cut l [10]).1).map mkB)).2 then restF (takesF st ((wordsL [] (cut l [10]).1).map mkB)).1 (n + 1) (cut l [10]).2.1
  else ((takesF st ((wordsL [] (cut l [10]).1).map mkB)).1, n + 1)
theorem blank_ne {b : UInt8} (h : blankR b.toNat = true) : b ≠ 10 := by
  intro e
  rw [e] at h
  exact absurd h (by decide)
theorem midF_blank (st : St) (n : Nat) (b : UInt8) (hb : blankR b.toNat = true) (l : List UInt8) : midF st n (b :: l) = midF st n l := by
  unfold midF
  rw [cut_cons, if_neg (blank_ne hb)]
  simp only
  rw [wordsL_blank b hb]
theorem midF_nl (st : St) (n : Nat) (l : List UInt8) : midF st n (10 :: l) = restF st (n + 1) l := by
  unfold midF
  rw [cut_cons, if_pos rfl]
  simp [wordsL, takesF]
theorem midF_nil (st : St) (n : Nat) : midF st n [] = restF st (n + 1) [] := by
  unfold midF
  rw [cut_nil]
  simp [wordsL, takesF]
theorem midF_word (st : St) (n : Nat) (w : List UInt8) (hw : w ≠ []) (hb : ∀ c ∈ w, blankR c.toNat = false ∧ c ≠ 10) (c : UInt8) (hc : c = 10 ∨ blankR c.toNat = true) (l : List UInt8) :
    midF st n (w ++ c :: l) = match takeF st (mkB w) with
      | some st' => midF st' n (c :: l)
      | none => (st, n + 1) := by
  have e : wordsL [] (w ++ (cut (c :: l) [10]).1) = w :: wordsL [] (cut (c :: l) [10]).1 := by
    rw [cut_cons]
    rcases hc with rfl | hc
    · rw [if_pos rfl, List.append_nil, wordsL_end w hw (fun x hx => (hb x hx).1)]
      rfl
    · rw [if_neg (blank_ne hc)]
      simp only
      rw [wordsL_next w hw (fun x hx => (hb x hx).1) c hc, wordsL_blank c hc]
  unfold midF
  rw [cut_run w _ (fun x hx => (hb x hx).2)]
  simp only
  rw [e]
  simp only [List.map_cons, takesF]
  cases takeF st (mkB w) with
  | none => simp
  | some st' => simp
theorem midF_last (st : St) (n : Nat) (w : List UInt8) (hw : w ≠ []) (hb : ∀ c ∈ w, blankR c.toNat = false ∧ c ≠ 10) :
    midF st n w = match takeF st (mkB w) with
      | some st' => restF st' (n + 1) []
      | none => (st, n + 1) := by
  have hc := cut_run w [] (fun x hx => (hb x hx).2)
  rw [cut_nil, List.append_nil] at hc
  simp only [List.append_nil] at hc
  unfold midF
  rw [hc]
  simp only
  rw [wordsL_end w hw (fun x hx => (hb x hx).1)]
  simp only [List.map_cons, List.map_nil, takesF]
  cases takeF st (mkB w) with
  | none => simp
  | some st' => simp
theorem restF_mid (st : St) (n : Nat) (b : UInt8) (hb : b ≠ 99) (l : List UInt8) : restF st n (b :: l) = midF st n (b :: l) := by
  rw [restF_cons st n (b :: l) (by simp)]
  have hp : hasPrefix (cut (b :: l) [10]).1 [99] = false := by
    cases h : hasPrefix (cut (b :: l) [10]).1 [99] with
    | false => rfl
    | true =>
      have := (prefix_iff _).1 h
      rw [cut_cons] at this
      by_cases h10 : b = 10
      · rw [if_pos h10] at this; cases this
      · rw [if_neg h10] at this
        exact absurd (Option.some.inj this) hb
  have e : lineF st (cut (b :: l) [10]).1 = takesF st ((wordsL [] (cut (b :: l) [10]).1).map mkB) := by
    unfold lineF
    rw [if_neg (by rw [hp]; decide)]
    have := words_mk (cut (b :: l) [10]).1
    exact congrArg _ this
  rw [e]
  rfl
theorem restF_nl (st : St) (n : Nat) (l : List UInt8) : restF st n (10 :: l) = restF st (n + 1) l := by
  rw [restF_mid st n 10 (by decide), midF_nl]
theorem remFrom_all (l : List UInt8) (h : ∀ c ∈ l, okB c.toNat = true) (d : Nat) : ∀ pos : Nat, pos + d = l.length → remFrom (mkB l) d pos = true := by
  induction d with
  | zero => intro pos _; rfl
  | succ d ih =>
    intro pos hp
    rw [remFrom, by_mkB l pos (by omega), h _ (List.getElem_mem _), ih (pos + 1) (by omega)]
    rfl
/-- A remark's line. -/
theorem restF_rem (st : St) (n : Nat) (a : List UInt8) (ha : ∀ c ∈ a, okB c.toNat = true ∧ c ≠ 10) (l : List UInt8) : restF st n (99 :: a ++ 10 :: l) = restF st (n + 1) l := by
  have hc : cut (99 :: a ++ 10 :: l) [10] = (99 :: a, l, true) := by
    rw [cut_run (99 :: a) _ (fun x hx => by
      rcases List.mem_cons.1 hx with rfl | hx
      · decide
      · exact (ha x hx).2), cut_cons, if_pos rfl]
    simp
  rw [restF_cons st n _ (by simp), hc]
  have e : lineF st (99 :: a) = (st, true) := by
    unfold lineF
    rw [if_pos ((prefix_iff _).2 rfl)]
    have : remF (mk_ (99 :: a)) = true := by
      unfold remF
      rw [mk_size]
      exact remFrom_all (99 :: a) (fun c hc => by
        rcases List.mem_cons.1 hc with rfl | hc
        · rfl
        · exact (ha c hc).1) _ 0 (by simp)
    rw [this]
  simp only [e, if_true]

theorem itoa_bytes (x : Int) : itoa x ≠ [] ∧ ∀ c ∈ itoa x, c.toNat = 45 ∨ (48 ≤ c.toNat ∧ c.toNat ≤ 57) := by
  have dig : ∀ u : Nat, ∀ c ∈ decDigits u, c.toNat = 45 ∨ (48 ≤ c.toNat ∧ c.toNat ≤ 57) := fun u c hc => Or.inr (digit_iff (List.all_eq_true.1 (canon_digits (dec_props u).1) c hc))
  unfold itoa
  split
  · refine ⟨by simp, fun c hc => ?_⟩
    rcases List.mem_cons.1 hc with rfl | hc
    · exact Or.inl rfl
    · exact dig _ c hc
  · exact ⟨canon_ne (dec_props _).1, dig _⟩
theorem litN_itoa (x : Int) (h : litOk x = true) : litN (itoa x) = some x := by
  have hr : x ≠ 0 ∧ -1048576 ≤ x ∧ x ≤ 1048576 := by unfold litOk at h; exact of_decide_eq_true h
  by_cases hx : x < 0
  · obtain ⟨h1, h2, h3⟩ := dec_props x.natAbs
    have e : itoa x = 45 :: decDigits x.natAbs := by unfold itoa; rw [if_pos hx]
    have ha := atoi_neg h1 (by omega)
    rw [h2, show (-(x.natAbs : Nat) : Int) = x by omega, ← e] at ha
    rw [litN_of ha rfl, if_pos h]
  · obtain ⟨h1, h2, h3⟩ := dec_props x.toNat
    have e : itoa x = decDigits x.toNat := by unfold itoa; rw [if_neg hx]
    have ha := atoi_pos h1 (by omega)
    rw [h2, show ((x.toNat : Nat) : Int) = x by omega, ← e] at ha
    rw [litN_of ha rfl, if_pos h]
theorem itoa_first (x : Int) : ∃ c r, itoa x = c :: r ∧ c ≠ 99 := by
  obtain ⟨h1, h2⟩ := itoa_bytes x
  obtain ⟨c, r, e⟩ := List.exists_cons_of_ne_nil h1
  refine ⟨c, r, e, ?_⟩
  rintro rfl
  have := h2 99 (by rw [e]; exact List.mem_cons_self)
  have e99 : (99 : UInt8).toNat = 99 := rfl
  omega
theorem itoa_wordy (x : Int) : ∀ c ∈ itoa x, blankR c.toNat = false ∧ c ≠ 10 := by
  intro c hc
  have h := (itoa_bytes x).2 c hc
  refine ⟨by unfold blankR; rw [Bool.or_eq_false_iff]; exact ⟨beq_eq_false_iff_ne.2 (by omega), beq_eq_false_iff_ne.2 (by omega)⟩, ?_⟩
  rintro rfl
  have e10 : (10 : UInt8).toNat = 10 := rfl
  omega
theorem mkB_list (l : List UInt8) : (mkB l).data.toList = l := by unfold mkB; simp
theorem mkB_toList (l : List UInt8) : (mkB l).toList = l := by rw [ByteArray.toList_eq, mkB_list]
theorem takeF_lit (st : St) (x : Int) (h : litOk x = true) : takeF st (mkB (itoa x)) = some ⟨st.steps, true, st.drop, st.lits ++ [x]⟩ := by
  have hr : x ≠ 0 ∧ -1048576 ≤ x ∧ x ≤ 1048576 := by unfold litOk at h; exact of_decide_eq_true h
  have hn := litN_itoa x h
  have e1 : itoa x ≠ [100] := by
    intro e
    have := (itoa_bytes x).2 100 (by rw [e]; exact List.mem_cons_self)
    have e100 : (100 : UInt8).toNat = 100 := rfl
    omega
  have e2 : itoa x ≠ [48] := by
    intro e
    have h0 := (litN_some hn).1
    rw [e] at h0
    have h1 : atoiAll [48] = .ok (0 : Int) := by decide
    rw [h1] at h0
    injection h0 with h0
    omega
  unfold takeF
  rw [mkB_toList, if_neg (fun h => e1 h.1), if_neg e2, mkB_list, hn]
theorem takeF_d (st : St) (h : st.begun = false) : takeF st (mkB [100]) = some ⟨st.steps, true, true, st.lits⟩ := by
  unfold takeF
  rw [mkB_toList, if_pos ⟨rfl, h⟩]
theorem takeF_0 (st : St) : takeF st (mkB [48]) = some ⟨st.steps ++ [⟨st.drop, st.lits⟩], false, false, []⟩ := by
  unfold takeF
  rw [mkB_toList, if_neg (fun h => absurd h.1 (by decide)), if_pos rfl]
end Go.Proofs.YtooojhlndlebdaaRRRDoorRRRR.R
