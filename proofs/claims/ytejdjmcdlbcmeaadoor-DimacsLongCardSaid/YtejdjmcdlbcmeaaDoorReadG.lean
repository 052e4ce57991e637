/- Reading a formula's text word by word: at a line's start, inside a line; numbers in tens. No conditions. -/
import Derived.Test.YtejdjmcdlbcmeaaDoorReadD
import Derived.Test.YtejdjmcdlbcmeaaDoorNumD
set_option linter.unusedVariables false
set_option linter.unusedSimpArgs false
namespace Go.Proofs.YtejdjmcdlbcmeaaDoor.R
open Go.RowKit Go.Lib Go.Proofs.YtejdjmcdlbcmeaaDoorW.PrintWords Go.Proofs.YtejdjmcdlbcmeaaDoorW.PrintLast Go.Proofs.YtejdjmcdlbcmeaaDoorW.PrintMore

/-- What is left to read at a line's start. -/
def restD (st : FSt) (n : Nat) (l : List UInt8) : FSt × Int × Nat := linesD (linesA l) n st
theorem restD_nil (st : FSt) (n : Nat) : restD st n [] = (st, endD st, if endD st = 0 then 0 else n + 1) := rfl
theorem restD_cons (st : FSt) (n : Nat) (l : List UInt8) (hl : l ≠ []) : restD st n l = if idleB (cut l [10]).1 then restD st (n + 1) (cut l [10]).2.1 else if (lineD st (wordsB (mkB (cut l [10]).1))).2 = 0 then restD (lineD st (wordsB (mkB (cut l [10]).1))).1 (n + 1) (cut l [10]).2.1 else ((lineD st (wordsB (mkB (cut l [10]).1))).1, (lineD st (wordsB (mkB (cut l [10]).1))).2, n + 1) := by
  unfold restD
  rw [linesA_cons l hl, linesD]
/-- What is left to read inside a line, the head having been read. -/
def midD (st : FSt) (n : Nat) (l : List UInt8) : FSt × Int × Nat :=
  if (wordsD st ((wordsL [] (cut l [10]).1).map mkB)).2 = 0 then restD (wordsD st ((wordsL [] (cut l [10]).1).map mkB)).1 (n + 1) (cut l [10]).2.1
  else ((wordsD st ((wordsL [] (cut l [10]).1).map mkB)).1, (wordsD st ((wordsL [] (cut l [10]).1).map mkB)).2, n + 1)
theorem blank_ne {b : UInt8} (h : blankR b.toNat = true) : b ≠ 10 := by
  intro e
  rw [e] at h
  exact absurd h (by decide)
theorem midD_blank (st : FSt) (n : Nat) (b : UInt8) (hb : blankR b.toNat = true) (l : List UInt8) : midD st n (b :: l) = midD st n l := by
  unfold midD
  rw [cut_cons, if_neg (blank_ne hb)]
  simp only
  rw [wordsL_blank b hb]
theorem midD_nl (st : FSt) (n : Nat) (l : List UInt8) : midD st n (10 :: l) = restD st (n + 1) l := by
  unfold midD
  rw [cut_cons, if_pos rfl]
  simp [wordsL, wordsD]
theorem midD_nil (st : FSt) (n : Nat) : midD st n [] = restD st (n + 1) [] := by
  unfold midD
  rw [cut_nil]
  simp [wordsL, wordsD]
theorem words_next (w : List UInt8) (hw : w ≠ []) (hb : ∀ c ∈ w, blankR c.toNat = false ∧ c ≠ 10) (c : UInt8) (hc : c = 10 ∨ blankR c.toNat = true) (l : List UInt8) :
    cut (w ++ c :: l) [10] = (w ++ (cut (c :: l) [10]).1, (cut (c :: l) [10]).2.1, (cut (c :: l) [10]).2.2) ∧ wordsL [] (w ++ (cut (c :: l) [10]).1) = w :: wordsL [] (cut (c :: l) [10]).1 := by
  refine ⟨cut_run w _ (fun x hx => (hb x hx).2), ?_⟩
  rw [cut_cons]
  rcases hc with rfl | hc
  · rw [if_pos rfl, List.append_nil, wordsL_end w hw (fun x hx => (hb x hx).1)]
    rfl
  · rw [if_neg (blank_ne hc)]
    simp only
    rw [wordsL_next w hw (fun x hx => (hb x hx).1) c hc, wordsL_blank c hc]
theorem midD_word (st : FSt) (n : Nat) (w : List UInt8) (hw : w ≠ []) (hb : ∀ c ∈ w, blankR c.toNat = false ∧ c ≠ 10) (c : UInt8) (hc : c = 10 ∨ blankR c.toNat = true) (l : List UInt8) :
    midD st n (w ++ c :: l) = if (wordD st (mkB w)).2 = 0 then midD (wordD st (mkB w)).1 n (c :: l) else ((wordD st (mkB w)).1, (wordD st (mkB w)).2, n + 1) := by
  obtain ⟨h1, h2⟩ := words_next w hw hb c hc l
  unfold midD
  rw [h1]
  simp only
  rw [h2]
  simp only [List.map_cons, wordsD]
  by_cases h : (wordD st (mkB w)).2 = 0
  · simp only [if_pos h]
  · simp only [if_neg h]
theorem idle_mid {a : List UInt8} (h : idleB a = true) (hc : hasPrefix a [99] = false) : wordsL [] a = [] := by
  unfold idleB at h
  rw [hc, Bool.false_or, beq_iff_eq, words_mk, List.length_map] at h
  exact List.eq_nil_of_length_eq_zero h
theorem restD_mid (st : FSt) (n : Nat) (hh : st.headed = true) (b : UInt8) (hb : b ≠ 99) (l : List UInt8) : restD st n (b :: l) = midD st n (b :: l) := by
  rw [restD_cons st n (b :: l) (by simp)]
  have hp : hasPrefix (cut (b :: l) [10]).1 [99] = false := by
    rw [cut_cons]
    by_cases h10 : b = 10
    · rw [if_pos h10]; rfl
    · rw [if_neg h10]
      have : ((99 : UInt8) == b) = false := beq_eq_false_iff_ne.2 (fun e => hb e.symm)
      simp [hasPrefix, List.isPrefixOf, this]
  unfold midD
  by_cases hi : idleB (cut (b :: l) [10]).1 = true
  · rw [if_pos hi, idle_mid hi hp]
    simp [wordsD]
  · rw [if_neg hi]
    have e : lineD st (wordsB (mkB (cut (b :: l) [10]).1)) = wordsD st ((wordsL [] (cut (b :: l) [10]).1).map mkB) := by
      unfold lineD
      rw [if_pos hh, words_mk]
    rw [e]
theorem restD_nl (st : FSt) (n : Nat) (hh : st.headed = true) (l : List UInt8) : restD st n (10 :: l) = restD st (n + 1) l := by
  rw [restD_mid st n hh 10 (by decide), midD_nl]
/-- A remark's line. -/
theorem restD_rem (st : FSt) (n : Nat) (a : List UInt8) (ha : ∀ c ∈ a, c ≠ 10) (l : List UInt8) : restD st n (99 :: a ++ 10 :: l) = restD st (n + 1) l := by
  have hc : cut (99 :: a ++ 10 :: l) [10] = (99 :: a, l, true) := by
    rw [cut_run (99 :: a) _ (fun x hx => by
      rcases List.mem_cons.1 hx with rfl | hx
      · decide
      · exact ha x hx), cut_cons, if_pos rfl]
    simp
  rw [restD_cons st n _ (by simp), hc]
  have e : idleB (99 :: a) = true := by unfold idleB; rw [show hasPrefix (99 :: a) [99] = true from by simp [hasPrefix, List.isPrefixOf]]; rfl
  simp only
  rw [if_pos e]

/-! numbers -/
theorem by_mkB' (l : List UInt8) (i : Nat) (h : i < l.length) : by_ (mkB l) i = (l[i]).toNat := by_mkB l i h
theorem stepN_lt (n : Nat) (c : Nat) (hc : 48 ≤ c) (h : 10 * n + (c - 48) ≤ 2147483647) : stepN (n : Int) c = ((n * 10 + (c - 48) : Nat) : Int) := by
  unfold stepN
  rw [if_pos (by omega)]
  omega
theorem numFrom_digits (l : List UInt8) (d : Nat) : ∀ (pos n : Nat), pos + d = l.length → (l.drop pos).all digit = true → val_ n (l.drop pos) ≤ 2147483647 → numFrom (mkB l) d pos (n : Int) = (((val_ n (l.drop pos) : Nat) : Int), true) := by
  induction d with
  | zero =>
    intro pos n hp _ _
    rw [List.drop_of_length_le (by omega)]
    rfl
  | succ d ih =>
    intro pos n hp ha hv
    have hlt : pos < l.length := by omega
    rw [List.drop_eq_getElem_cons hlt] at ha hv ⊢
    rw [List.all_cons, Bool.and_eq_true] at ha
    have hd := digit_iff ha.1
    have hge := val_ge (l.drop (pos + 1)) (n * 10 + ((l[pos]).toNat - 48))
    have e1 : val_ n (l[pos] :: l.drop (pos + 1)) = val_ (n * 10 + ((l[pos]).toNat - 48)) (l.drop (pos + 1)) := rfl
    rw [e1] at hv ⊢
    rw [numFrom, by_mkB l pos hlt, if_pos (by unfold digB; exact decide_eq_true hd), stepN_lt n _ hd.1 (by omega)]
    exact ih (pos + 1) _ (by omega) ha.2 hv
theorem canon_head48 {D : List UInt8} (h : canon D = true) (h0 : D ≠ [48]) : ∃ c r, D = c :: r ∧ c.toNat ≠ 48 := by
  match D, h, h0 with
  | [], h, _ => simp [canon] at h
  | [c], h, h0 => exact ⟨c, [], rfl, fun e => h0 (by rw [UInt8.toNat_inj.1 (show c.toNat = (48 : UInt8).toNat from e)])⟩
  | c :: b :: r, h, _ =>
    refine ⟨c, b :: r, rfl, fun e => ?_⟩
    unfold canon at h
    rw [Bool.and_eq_true] at h
    exact (bne_iff_ne.1 h.2) (UInt8.toNat_inj.1 (show c.toNat = (48 : UInt8).toNat from e))
theorem numR_itoa (x : Int) (h0 : -2147483647 ≤ x) (h1 : x ≤ 2147483647) : numR (mkB (itoa x)) = (x, true) := by
  by_cases hx : x < 0
  · obtain ⟨d1, d2, d3⟩ := dec_props x.natAbs
    have e : itoa x = 45 :: decDigits x.natAbs := by unfold itoa; rw [if_pos hx]
    obtain ⟨D, hD⟩ : ∃ D, decDigits x.natAbs = D := ⟨_, rfl⟩
    rw [hD] at d1 d2 d3 e
    obtain ⟨c, r, hc, h48⟩ := canon_head48 d1 (fun e => by have := d3 e; omega)
    have hp : hasPrefix (mkB (45 :: D)).data.toList [45] = true := by rw [mkB_list]; simp [hasPrefix, List.isPrefixOf]
    have hs : (mkB (45 :: D)).size = D.length + 1 := by rw [mkB_size]; rfl
    have hDl : 1 ≤ D.length := by rw [hc]; simp
    have hb : by_ (mkB (45 :: D)) 1 ≠ 48 := by
      rw [by_mkB (45 :: D) 1 (by simp only [List.length_cons]; omega)]
      have e1 : (45 :: D)[1]'(by simp only [List.length_cons]; omega) = c := by simp [hc]
      rw [e1]
      exact h48
    have hn := numFrom_digits (45 :: D) D.length 1 0 (by simp only [List.length_cons]; omega) (canon_digits d1) (by show val_ 0 D ≤ _; rw [d2]; omega)
    rw [show (((0 : Nat)) : Int) = 0 from rfl] at hn
    have hne : ¬ (1 = (mkB (45 :: D)).size ∨ (by_ (mkB (45 :: D)) 1 = 48 ∧ 1 < (mkB (45 :: D)).size)) := by
      rw [hs]
      rintro (h | h)
      · omega
      · exact hb h.1
    rw [e]
    unfold numR
    rw [if_pos hp]
    unfold numAt
    rw [if_neg hne, hs, Nat.add_sub_cancel, hn]
    have : val_ 0 ((45 :: D).drop 1) = x.natAbs := d2
    rw [this]
    simp only
    congr 1
    omega
  · obtain ⟨d1, d2, d3⟩ := dec_props x.toNat
    have e : itoa x = decDigits x.toNat := by unfold itoa; rw [if_neg hx]
    obtain ⟨D, hD⟩ : ∃ D, decDigits x.toNat = D := ⟨_, rfl⟩
    rw [hD] at d1 d2 d3 e
    have hp : hasPrefix (mkB D).data.toList [45] = false := by
      rw [mkB_list]
      match D, d1 with
      | [], d1 => simp [canon] at d1
      | c :: r, d1 =>
        have hc := canon_digits d1
        rw [List.all_cons, Bool.and_eq_true] at hc
        have := digit_iff hc.1
        have h45 : ((45 : UInt8) == c) = false := beq_eq_false_iff_ne.2 (fun e => by rw [← e] at this; have e45 : (45 : UInt8).toNat = 45 := rfl; omega)
        simp [hasPrefix, List.isPrefixOf, h45]
    have hs : (mkB D).size = D.length := mkB_size D
    have hn := numFrom_digits D D.length 0 0 (by omega) (by rw [List.drop_zero]; exact canon_digits d1) (by rw [List.drop_zero, d2]; omega)
    rw [List.drop_zero, d2, show (((0 : Nat)) : Int) = 0 from rfl] at hn
    rw [e]
    unfold numR
    rw [if_neg (by rw [hp]; decide)]
    unfold numAt
    have hne : ¬ (0 = (mkB D).size ∨ (by_ (mkB D) 0 = 48 ∧ 1 < (mkB D).size)) := by
      rw [hs]
      rintro (h | ⟨h, h2⟩)
      · have : D = [] := List.eq_nil_of_length_eq_zero h.symm
        rw [this] at d1
        simp [canon] at d1
      · obtain ⟨c, r, hc, h48⟩ := canon_head48 d1 (fun e => by rw [e] at h2; simp at h2)
        rw [by_mkB D 0 (by omega)] at h
        simp only [hc, List.getElem_cons_zero] at h
        exact h48 h
    rw [if_neg hne, hs, Nat.sub_zero, hn]
    simp only
    congr 1
    omega
end Go.Proofs.YtejdjmcdlbcmeaaDoor.R
