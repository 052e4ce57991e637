/- The text that dimacs.Write gives is read as the formula that it was given. No conditions. -/
import Derived.Test.YtejdjmcdlbcmeaaDoorReadG
import Derived.Test.YtejdjmcdlbcmeaaDoorFormP
set_option linter.unusedVariables false
set_option linter.unusedSimpArgs false
namespace Go.Proofs.YtejdjmcdlbcmeaaDoor.R
open Go.RowKit Go.Lib Go.Proofs.YtejdjmcdlbcmeaaDoorW.PrintWords Go.Proofs.YtejdjmcdlbcmeaaDoorW.PrintLast Go.Proofs.YtejdjmcdlbcmeaaDoorW.PrintMore
open Go.Proofs.YtejdjmcdlbcmeaaDoor.P (wordsT clauseT clausesT headF formT litOk inV clauseOk formOk)

theorem itoa_bytes (x : Int) : itoa x ≠ [] ∧ ∀ c ∈ itoa x, c.toNat = 45 ∨ (48 ≤ c.toNat ∧ c.toNat ≤ 57) := by
  have dig : ∀ u : Nat, ∀ c ∈ decDigits u, c.toNat = 45 ∨ (48 ≤ c.toNat ∧ c.toNat ≤ 57) := fun u c hc => Or.inr (digit_iff (List.all_eq_true.1 (canon_digits (dec_props u).1) c hc))
  unfold itoa
  split
  · refine ⟨by simp, fun c hc => ?_⟩
    rcases List.mem_cons.1 hc with rfl | hc
    · exact Or.inl rfl
    · exact dig _ c hc
  · refine ⟨fun e => ?_, dig _⟩
    have := (dec_props x.toNat).1
    rw [e] at this
    simp [canon] at this
theorem itoa_first (x : Int) : ∃ c r, itoa x = c :: r ∧ c ≠ 99 := by
  obtain ⟨h1, h2⟩ := itoa_bytes x
  obtain ⟨c, r, e⟩ := List.exists_cons_of_ne_nil h1
  refine ⟨c, r, e, ?_⟩
  rintro rfl
  have := h2 99 (by rw [e]; exact List.mem_cons_self)
  have e99 : (99 : UInt8).toNat = 99 := rfl
  omega
theorem itoa_wordy (x : Int) : ∀ c ∈ itoa x, blankR c.toNat = false ∧ c ≠ 10 := by
  intro c hc
  have h := (itoa_bytes x).2 c hc
  refine ⟨by unfold blankR; rw [Bool.or_eq_false_iff]; exact ⟨beq_eq_false_iff_ne.2 (by omega), beq_eq_false_iff_ne.2 (by omega)⟩, ?_⟩
  rintro rfl
  have e10 : (10 : UInt8).toNat = 10 := rfl
  omega
theorem itoa_0 : itoa 0 = [48] := by
  have e : itoa 0 = decDigits 0 := by unfold itoa; rw [if_neg (by decide)]; rfl
  rw [e, dec_lt (by decide)]
  rfl
theorem numR_0 : numR (mkB [48]) = (0, true) := by
  rw [← itoa_0]
  exact numR_itoa 0 (by decide) (by decide)
theorem wordD_0 (st : FSt) : wordD st (mkB [48]) = (⟨st.headed, st.count, st.vars, st.cls ++ [st.opn], []⟩, 0) := by
  unfold wordD
  rw [numR_0, if_neg (by decide), if_pos rfl]
theorem wordD_lit (st : FSt) (x : Int) (h1 : litOk x = true) (h2 : inV st.vars x = true) : wordD st (mkB (itoa x)) = (⟨st.headed, st.count, st.vars, st.cls, st.opn ++ [x]⟩, 0) := by
  have hr : x ≠ 0 ∧ -1048576 ≤ x ∧ x ≤ 1048576 := by unfold litOk at h1; exact of_decide_eq_true h1
  have hv : x ≤ st.vars ∧ -x ≤ st.vars := by unfold inV at h2; exact of_decide_eq_true h2
  unfold wordD
  rw [numR_itoa x (by omega) (by omega)]
  simp only
  rw [if_neg (by decide), if_neg hr.1, if_pos (by unfold litV; rw [decide_eq_true hr, decide_eq_true (by omega)]; rfl)]
theorem wordsT_cons (x : Int) (l : List Int) : wordsT (x :: l) = itoa x ++ 32 :: wordsT l := by unfold wordsT; simp
theorem clausesT_cons (c : List Int) (l : List (List Int)) : clausesT (c :: l) = clauseT c ++ clausesT l := by unfold clausesT; simp
theorem midD_lits (r : List UInt8) : ∀ (c : List Int) (st : FSt) (n : Nat), c.all litOk = true → c.all (inV st.vars) = true →
    midD st n (wordsT c ++ 48 :: 10 :: r) = restD ⟨st.headed, st.count, st.vars, st.cls ++ [st.opn ++ c], []⟩ (n + 1) r := by
  intro c
  induction c with
  | nil =>
    intro st n _ _
    have e : wordsT [] ++ 48 :: 10 :: r = [48] ++ 10 :: r := rfl
    rw [e, midD_word st n [48] (by simp) (by decide) 10 (Or.inl rfl), wordD_0]
    simp only
    rw [if_pos trivial, midD_nl, List.append_nil]
  | cons x c ih =>
    intro st n h1 h2
    rw [List.all_cons, Bool.and_eq_true] at h1 h2
    rw [wordsT_cons, List.append_assoc, List.cons_append, midD_word st n (itoa x) (itoa_bytes x).1 (itoa_wordy x) 32 (Or.inr rfl), wordD_lit st x h1.1 h2.1]
    simp only
    rw [if_pos trivial, midD_blank _ _ 32 rfl, ih ⟨st.headed, st.count, st.vars, st.cls, st.opn ++ [x]⟩ n h1.2 h2.2]
    simp
theorem restD_clause (r : List UInt8) (c : List Int) (st : FSt) (n : Nat) (hh : st.headed = true) (ho : st.opn = []) (h : clauseOk st.vars c = true) :
    restD st n (clauseT c ++ r) = restD ⟨st.headed, st.count, st.vars, st.cls ++ [c], []⟩ (n + 1) r := by
  unfold clauseOk at h
  rw [Bool.and_eq_true] at h
  have e : clauseT c ++ r = wordsT c ++ 48 :: 10 :: r := by unfold clauseT; simp
  have hm := midD_lits r c st n h.1 h.2
  rw [ho] at hm
  rw [e, ← List.nil_append c, ← hm]
  cases c with
  | nil => exact restD_mid st n hh 48 (by decide) _
  | cons x c =>
    obtain ⟨b, q, e, hb⟩ := itoa_first x
    rw [List.nil_append, wordsT_cons, e]
    exact restD_mid st n hh b hb _
theorem restD_clauses (r : List UInt8) : ∀ (l : List (List Int)) (st : FSt) (n : Nat), st.headed = true → st.opn = [] → l.all (clauseOk st.vars) = true →
    restD st n (clausesT l ++ r) = restD ⟨st.headed, st.count, st.vars, st.cls ++ l, []⟩ (n + l.length) r := by
  intro l
  induction l with
  | nil =>
    intro st n hh ho _
    obtain ⟨a, b, c, d, e⟩ := st
    simp only at ho
    subst ho
    simp [clausesT]
  | cons c l ih =>
    intro st n hh ho h
    rw [List.all_cons, Bool.and_eq_true] at h
    rw [clausesT_cons, List.append_assoc, restD_clause _ c st n hh ho h.1, ih ⟨st.headed, st.count, st.vars, st.cls ++ [c], []⟩ (n + 1) hh rfl h.2]
    simp only [List.append_assoc, List.singleton_append, List.length_cons]
    rw [show n + 1 + l.length = n + (l.length + 1) by omega]
/-- The head's line. -/
theorem restD_head (r : List UInt8) (v : Int) (m : Nat) (h0 : 0 ≤ v) (h1 : v ≤ 1048576) (hm : m ≤ 1048576) : restD fst0 0 (headF v m ++ r) = restD ⟨true, m, v, [], []⟩ 1 r := by
  obtain ⟨L, hL⟩ : ∃ L : List UInt8, [112] ++ 32 :: ([99, 110, 102] ++ 32 :: (itoa v ++ 32 :: itoa (m : Int))) = L := ⟨_, rfl⟩
  have e : headF v m ++ r = L ++ 10 :: r := by
    rw [← hL]
    unfold headF
    simp
  have hno : ∀ c ∈ L, c ≠ 10 := by
    rw [← hL]
    intro c hc
    simp only [List.cons_append, List.nil_append, List.mem_cons, List.mem_append] at hc
    rcases hc with rfl | rfl | rfl | rfl | rfl | rfl | hc | rfl | hc
    · decide
    · decide
    · decide
    · decide
    · decide
    · decide
    · exact (itoa_wordy v c hc).2
    · decide
    · exact (itoa_wordy _ c hc).2
  have hw : wordsL [] L = [[112], [99, 110, 102], itoa v, itoa (m : Int)] := by
    rw [← hL, wordsL_next [112] (by simp) (by decide) 32 rfl, wordsL_next [99, 110, 102] (by simp) (by decide) 32 rfl, wordsL_next (itoa v) (itoa_bytes v).1 (fun c hc => (itoa_wordy v c hc).1) 32 rfl, wordsL_end (itoa (m : Int)) (itoa_bytes _).1 (fun c hc => (itoa_wordy _ c hc).1)]
  have hc : cut (L ++ 10 :: r) [10] = (L, r, true) := by
    rw [cut_run L _ hno, cut_cons, if_pos rfl]
    simp
  have hwb : wordsB (mkB L) = [mkB [112], mkB [99, 110, 102], mkB (itoa v), mkB (itoa (m : Int))] := by
    rw [words_mk, hw]
    rfl
  have hid : idleB L = false := by
    unfold idleB
    rw [hwb, ← hL]
    rfl
  have hln : lineD fst0 (wordsB (mkB L)) = (⟨true, m, v, [], []⟩, 0) := by
    unfold lineD
    rw [if_neg (by decide), hwb]
    have hh : headR [mkB [112], mkB [99, 110, 102], mkB (itoa v), mkB (itoa (m : Int))] = (v, (m : Int), true) := by
      simp only [headR]
      rw [if_pos ⟨by rw [ByteArray.toList_eq, mkB_list], by rw [ByteArray.toList_eq, mkB_list]⟩, numR_itoa v (by omega) (by omega), numR_itoa (m : Int) (by omega) (by omega)]
      unfold headN
      simp only [Bool.true_and]
      rw [decide_eq_true h0, decide_eq_true h1, decide_eq_true (show (0 : Int) ≤ (m : Int) by omega), decide_eq_true (show (m : Int) < 2147483648 by omega)]
      rfl
    rw [hh]
    rfl
  rw [e, restD_cons fst0 0 _ (by simp), hc]
  simp only
  rw [hid, hln]
  simp
theorem readD_mkB (t : List UInt8) : readD (mkB t) = restD fst0 0 t := by
  unfold readD restD
  rw [mkB_list]
theorem readD_form (v : Int) (l : List (List Int)) (h : formOk v l = true) (hl : l.length ≤ 1048576) : readD (mkB (formT v l)) = (⟨true, l.length, v, l, []⟩, 0, 0) := by
  unfold formOk at h
  rw [Bool.and_eq_true, decide_eq_true_eq] at h
  have hc := restD_clauses [] l ⟨true, l.length, v, [], []⟩ 1 rfl rfl h.2
  rw [List.append_nil] at hc
  have he : endD ⟨true, l.length, v, l, []⟩ = 0 := by unfold endD; simp
  rw [readD_mkB]
  unfold formT
  rw [restD_head _ v l.length h.1.1 h.1.2 hl, hc, restD_nil]
  simp only [List.nil_append]
  simp only [he, if_true]
end Go.Proofs.YtejdjmcdlbcmeaaDoor.R
