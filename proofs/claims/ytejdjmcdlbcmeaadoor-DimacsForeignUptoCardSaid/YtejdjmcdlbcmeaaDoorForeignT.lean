/- A foreign word at a clause's end is refused with its line; the place of a clause's end in the text. No conditions. -/
import Derived.Test.YtejdjmcdlbcmeaaDoorSameT
set_option linter.unusedVariables false
set_option linter.unusedSimpArgs false
namespace Go.Proofs.YtejdjmcdlbcmeaaDoor.T
open Go.RowKit Go.Lib Go.Proofs.YtejdjmcdlbcmeaaDoorW.PrintWords Go.Proofs.YtejdjmcdlbcmeaaDoorW.PrintLast Go.Proofs.YtejdjmcdlbcmeaaDoorW.PrintMore
open Go.Proofs.YtejdjmcdlbcmeaaDoor.R (mkB mkB_size mkB_extract FSt fst0 restD midD wordD numR blankR readD readD_mkB restD_head restD_clauses restD_mid midD_word midD_blank wordD_0 wordD_lit itoa_bytes itoa_wordy itoa_first wordsT_cons)
open Go.Proofs.YtejdjmcdlbcmeaaDoor.P (wordsT clauseT clausesT headF formT litOk inV clauseOk formOk)

/-- The words that `foreign` gives. -/
def foreignL : List (List UInt8) := [[120], [43, 49], [45, 48], [48, 49], [49, 46], [45, 45, 49], [48, 120, 49], [99], [45], [49, 45], [49, 13], [217, 161], [48, 48], [45, 48, 49], [118], [37]]
theorem foreign_num : foreignL.all (fun w => !(numR (mkB w)).2) = true := by kernel_rfl
theorem foreign_plain : foreignL.all (fun w => !w.isEmpty && w.all (fun c => !blankR c.toNat && c != 10) && decide (w.length ≤ 3)) = true := by kernel_rfl
theorem foreign_word {w : List UInt8} (h : w ∈ foreignL) (st : FSt) : wordD st (mkB w) = (st, 31) := by
  have h1 := List.all_eq_true.1 foreign_num w h
  unfold wordD
  rw [if_pos (by simpa using h1)]
theorem foreign_ok {w : List UInt8} (h : w ∈ foreignL) : w ≠ [] ∧ (∀ c ∈ w, blankR c.toNat = false ∧ c ≠ 10) ∧ w.length ≤ 3 := by
  have h1 := List.all_eq_true.1 foreign_plain w h
  rw [Bool.and_eq_true, Bool.and_eq_true] at h1
  refine ⟨fun e => by rw [e] at h1; simp at h1, fun c hc => ?_, of_decide_eq_true h1.2⟩
  have h2 := List.all_eq_true.1 h1.1.2 c hc
  rw [Bool.and_eq_true] at h2
  exact ⟨by simpa using h2.1, by simpa using h2.2⟩
theorem foreign_is (a2 : Int) : ∃ w ∈ foreignL, depotlaw03_foreign.f a2 = some (mkB w) := by
  have key : ∀ i : Nat, i < 16 → ∃ w ∈ foreignL, rdOf ByteArray.empty (foreignL.map mkB) (i : Int) = mkB w := by
    intro i hi
    have hL : foreignL.length = 16 := rfl
    refine ⟨foreignL[i]'(by omega), List.getElem_mem _, ?_⟩
    unfold rdOf
    rw [Int.toNat_natCast, List.getD_eq_getElem?_getD, List.getElem?_eq_getElem (by rw [List.length_map]; omega), List.getElem_map]
    rfl
  have e : depotlaw03_foreign.f a2 = (some (foreignL.map mkB)).bind fun y129 => (if (y129.length : Int) = 0 then (none) else (if (Int.tmod a2 (y129.length : Int)) < 0 then (if 0 ≤ (wrap64 ((Int.tmod a2 (y129.length : Int)) + (y129.length : Int))) then (if (wrap64 ((Int.tmod a2 (y129.length : Int)) + (y129.length : Int))) < (y129.length : Int) then (some (rdOf ByteArray.empty y129 (wrap64 ((Int.tmod a2 (y129.length : Int)) + (y129.length : Int))))) else (none)) else (none)) else (if 0 ≤ (Int.tmod a2 (y129.length : Int)) then (if (Int.tmod a2 (y129.length : Int)) < (y129.length : Int) then (some (rdOf ByteArray.empty y129 (Int.tmod a2 (y129.length : Int)))) else (none)) else (none)))) := rfl
  rw [e, Option.bind_some]
  have hL : ((foreignL.map mkB).length : Int) = 16 := rfl
  rw [hL, if_neg (by decide)]
  have h1 : Int.tmod a2 16 < 16 := Int.tmod_lt_of_pos _ (by decide)
  have h2 : -16 < Int.tmod a2 16 := Int.lt_tmod_of_pos _ (by decide)
  generalize Int.tmod a2 16 = t at h1 h2
  by_cases h : t < 0
  · rw [if_pos h, w64d (by omega) (by omega), if_pos (by omega), if_pos (by omega)]
    obtain ⟨w, hw, ew⟩ := key (t + 16).toNat (by omega)
    refine ⟨w, hw, ?_⟩
    rw [← ew, Int.toNat_of_nonneg (by omega)]
  · rw [if_neg h, if_pos (by omega), if_pos (by omega)]
    obtain ⟨w, hw, ew⟩ := key t.toNat (by omega)
    refine ⟨w, hw, ?_⟩
    rw [← ew, Int.toNat_of_nonneg (by omega)]
/-- The clause's words, the closing nought and the foreign word. -/
theorem midD_foreign (w r : List UInt8) (hw : w ∈ foreignL) : ∀ (c : List Int) (st : FSt) (n : Nat), c.all litOk = true → c.all (inV st.vars) = true →
    ∃ st', midD st n (wordsT c ++ 48 :: 32 :: (w ++ 10 :: r)) = (st', 31, n + 1) := by
  intro c
  induction c with
  | nil =>
    intro st n _ _
    have e : wordsT [] ++ 48 :: 32 :: (w ++ 10 :: r) = [48] ++ 32 :: (w ++ 10 :: r) := rfl
    rw [e, midD_word st n [48] (by simp) (by decide) 32 (Or.inr rfl), wordD_0]
    simp only
    rw [if_pos trivial, midD_blank _ _ 32 rfl, midD_word _ n w (foreign_ok hw).1 (foreign_ok hw).2.1 10 (Or.inl rfl), foreign_word hw]
    simp only
    rw [if_neg (by decide)]
    exact ⟨_, rfl⟩
  | cons x c ih =>
    intro st n h1 h2
    rw [List.all_cons, Bool.and_eq_true] at h1 h2
    rw [wordsT_cons, List.append_assoc, List.cons_append, midD_word st n (itoa x) (itoa_bytes x).1 (itoa_wordy x) 32 (Or.inr rfl), wordD_lit st x h1.1 h2.1]
    simp only
    rw [if_pos trivial, midD_blank _ _ 32 rfl]
    exact ih ⟨st.headed, st.count, st.vars, st.cls, st.opn ++ [x]⟩ n h1.2 h2.2
/-- The text up to the end of clause i, without its newline; what follows that newline. -/
def beforeT (v : Int) (l : List (List Int)) (i : Nat) (c : List Int) : List UInt8 := headF v l.length ++ clausesT (l.take i) ++ (wordsT c ++ [48])
theorem formT_cut (v : Int) (l : List (List Int)) (i : Nat) (hi : i < l.length) : formT v l = beforeT v l i (l[i]'hi) ++ 10 :: clausesT (l.drop (i + 1)) := by
  have e : l = l.take i ++ l[i]'hi :: l.drop (i + 1) := by rw [← List.drop_eq_getElem_cons hi, List.take_append_drop]
  have e2 : clausesT l = clausesT (l.take i) ++ (clauseT (l[i]'hi) ++ clausesT (l.drop (i + 1))) := by
    conv => lhs; rw [e]
    unfold clausesT
    rw [List.flatMap_append, List.flatMap_cons]
  unfold formT beforeT
  rw [e2]
  unfold clauseT
  simp
theorem readD_foreign (v : Int) (l : List (List Int)) (h : formOk v l = true) (hl : l.length ≤ 1048576) (i : Nat) (hi : i < l.length) (w r : List UInt8) (hw : w ∈ foreignL) :
    ∃ st', readD (mkB (beforeT v l i (l[i]'hi) ++ 32 :: (w ++ 10 :: r))) = (st', 31, i + 2) := by
  have hp := h
  unfold formOk at hp
  rw [Bool.and_eq_true, decide_eq_true_eq] at hp
  have hc : clauseOk v (l[i]'hi) = true := List.all_eq_true.1 hp.2 _ (List.getElem_mem hi)
  have hc2 := hc
  unfold clauseOk at hc2
  rw [Bool.and_eq_true] at hc2
  have ht : (l.take i).all (clauseOk v) = true := List.all_eq_true.2 fun c hc => List.all_eq_true.1 hp.2 c (List.mem_of_mem_take hc)
  have e : beforeT v l i (l[i]'hi) ++ 32 :: (w ++ 10 :: r) = headF v l.length ++ (clausesT (l.take i) ++ (wordsT (l[i]'hi) ++ 48 :: 32 :: (w ++ 10 :: r))) := by
    unfold beforeT; simp
  obtain ⟨st', hm⟩ := midD_foreign w r hw (l[i]'hi) ⟨true, l.length, v, l.take i, []⟩ (1 + i) hc2.1 hc2.2
  refine ⟨st', ?_⟩
  rw [readD_mkB, e, restD_head _ v l.length hp.1.1 hp.1.2 hl, restD_clauses _ (l.take i) ⟨true, l.length, v, [], []⟩ 1 rfl rfl ht]
  have hlen : (l.take i).length = i := by rw [List.length_take]; omega
  rw [hlen]
  simp only [List.nil_append]
  have hmid : restD ⟨true, l.length, v, l.take i, []⟩ (1 + i) (wordsT (l[i]'hi) ++ 48 :: 32 :: (w ++ 10 :: r)) = midD ⟨true, l.length, v, l.take i, []⟩ (1 + i) (wordsT (l[i]'hi) ++ 48 :: 32 :: (w ++ 10 :: r)) := by
    cases hcc : l[i]'hi with
    | nil => exact restD_mid _ _ rfl 48 (by decide) _
    | cons x c =>
      obtain ⟨b, q, eq, hb⟩ := itoa_first x
      rw [wordsT_cons, eq]
      exact restD_mid _ _ rfl b hb _
  rw [hmid, hm, show 1 + i + 1 = i + 2 by omega]
/-- The place of the newline that ends line `target`, as the law's loop finds it. -/
def scanP (target : Int) : List UInt8 → Int → Int → Int → Int
  | [], _, x10, _ => x10
  | b :: r, x9, x10, x11 => if b = 10 then (if x9 + 1 = target then scanP target r (x9 + 1) x11 (x11 + 1) else scanP target r (x9 + 1) x10 (x11 + 1)) else scanP target r x9 x10 (x11 + 1)
theorem scan_after (target : Int) : ∀ (r : List UInt8) (x9 x10 x11 : Int), target ≤ x9 → scanP target r x9 x10 x11 = x10 := by
  intro r
  induction r with
  | nil => intros; rfl
  | cons b r ih =>
    intro x9 x10 x11 h
    unfold scanP
    by_cases hb : b = 10
    · rw [if_pos hb, if_neg (by omega)]
      exact ih _ _ _ (by omega)
    · rw [if_neg hb]
      exact ih _ _ _ h
theorem scan_at (target : Int) (B : List UInt8) : ∀ (A : List UInt8) (x9 x10 x11 : Int), x9 + (A.count 10 : Nat) + 1 = target → scanP target (A ++ 10 :: B) x9 x10 x11 = x11 + A.length := by
  intro A
  induction A with
  | nil =>
    intro x9 x10 x11 h
    rw [List.count_nil] at h
    rw [List.nil_append]
    unfold scanP
    rw [if_pos rfl, if_pos (by omega), scan_after _ _ _ _ _ (by omega)]
    simp
  | cons b A ih =>
    intro x9 x10 x11 h
    rw [List.cons_append]
    unfold scanP
    by_cases hb : b = 10
    · subst hb
      rw [List.count_cons_self] at h
      rw [if_pos rfl, if_neg (by omega), ih _ _ _ (by omega), List.length_cons]
      omega
    · rw [List.count_cons_of_ne (by simpa using hb)] at h
      rw [if_neg hb, ih _ _ _ h, List.length_cons]
      omega
theorem words_count (c : List Int) : (wordsT c).count 10 = 0 := by
  rw [List.count_eq_zero]
  intro h
  unfold wordsT at h
  obtain ⟨x, _, hx⟩ := List.mem_flatMap.1 h
  rcases List.mem_append.1 hx with h | h
  · exact (itoa_wordy x 10 h).2 rfl
  · simp at h
theorem clause_count (c : List Int) : (clauseT c).count 10 = 1 := by
  unfold clauseT
  rw [List.count_append, words_count]
  decide
theorem clauses_count (l : List (List Int)) : (clausesT l).count 10 = l.length := by
  induction l with
  | nil => rfl
  | cons c l ih =>
    have e : clausesT (c :: l) = clauseT c ++ clausesT l := by unfold clausesT; simp
    rw [e, List.count_append, clause_count, ih, List.length_cons]
    omega
theorem itoa_count (x : Int) : (itoa x).count 10 = 0 := by
  rw [List.count_eq_zero]
  exact fun h => (itoa_wordy x 10 h).2 rfl
theorem head_count (v : Int) (m : Nat) : (headF v m).count 10 = 1 := by
  unfold headF
  simp only [List.count_append, itoa_count]
  decide
theorem before_count (v : Int) (l : List (List Int)) (i : Nat) (hi : i < l.length) (c : List Int) : (beforeT v l i c).count 10 = i + 1 := by
  unfold beforeT
  have hlen : (l.take i).length = i := by rw [List.length_take]; omega
  rw [List.count_append, List.count_append, List.count_append, head_count, clauses_count, words_count, hlen]
  have : List.count 10 [(48 : UInt8)] = 0 := by decide
  omega
end Go.Proofs.YtejdjmcdlbcmeaaDoor.T
