/- A whole text with other blanks, lines and remarks is read as the formula. No conditions. -/
import Derived.Test.YtejdjmcdlbcmeaaDoorLooseG
set_option linter.unusedVariables false
set_option linter.unusedSimpArgs false
namespace Go.Proofs.YtejdjmcdlbcmeaaDoor.R
open Go.RowKit Go.Lib Go.Proofs.YtejdjmcdlbcmeaaDoorW.PrintWords Go.Proofs.YtejdjmcdlbcmeaaDoorW.PrintLast Go.Proofs.YtejdjmcdlbcmeaaDoorW.PrintMore
open Go.Proofs.YtejdjmcdlbcmeaaDoor.P (wordsT clauseT clausesT headF formT litOk inV clauseOk formOk)

theorem restD_gap (st : FSt) (n : Nat) (r : List UInt8) : restD st n (10 :: r) = restD st (n + 1) r := by
  have hc : cut (10 :: r) [10] = ([], r, true) := by rw [cut_cons, if_pos rfl]
  rw [restD_cons st n _ (by simp), hc]
  rfl
theorem restD_line (r : List UInt8) (L : List UInt8) (hL : ∀ c ∈ L, c ≠ 10) (hp : hasPrefix L [99] = false) (v : Int) (m : Nat) (h0 : 0 ≤ v) (h1 : v ≤ 1048576) (hm : m ≤ 1048576) (hw : wordsL [] L = [[112], [99, 110, 102], itoa v, itoa (m : Int)]) (n : Nat) :
    restD fst0 n (L ++ 10 :: r) = restD ⟨true, m, v, [], []⟩ (n + 1) r := by
  have hc : cut (L ++ 10 :: r) [10] = (L, r, true) := by
    rw [cut_run L _ hL, cut_cons, if_pos rfl]
    simp
  have hwb : wordsB (mkB L) = [mkB [112], mkB [99, 110, 102], mkB (itoa v), mkB (itoa (m : Int))] := by
    rw [words_mk, hw]
    rfl
  have hid : idleB L = false := by
    unfold idleB
    rw [hwb, hp]
    rfl
  have hln : lineD fst0 (wordsB (mkB L)) = (⟨true, m, v, [], []⟩, 0) := by
    unfold lineD
    rw [if_neg (by decide), hwb]
    have hh : headR [mkB [112], mkB [99, 110, 102], mkB (itoa v), mkB (itoa (m : Int))] = (v, (m : Int), true) := by
      simp only [headR]
      rw [if_pos ⟨by rw [ByteArray.toList_eq, mkB_list], by rw [ByteArray.toList_eq, mkB_list]⟩, numR_itoa v (by omega) (by omega), numR_itoa (m : Int) (by omega) (by omega)]
      unfold headN
      simp only [Bool.true_and]
      rw [decide_eq_true h0, decide_eq_true h1, decide_eq_true (show (0 : Int) ≤ (m : Int) by omega), decide_eq_true (show (m : Int) < 2147483648 by omega)]
      rfl
    rw [hh]
    rfl
  rw [restD_cons fst0 n _ (by simp), hc]
  simp only
  rw [hid, hln]
  simp
def looseH (v : Int) (m : Nat) : List UInt8 := [99, 32, 112, 32, 99, 110, 102, 32, 49, 32, 49, 10, 10, 32, 9, 112, 9, 32, 99, 110, 102, 32, 32] ++ itoa v ++ [32] ++ itoa (m : Int) ++ [32, 10]
theorem restD_loose (r : List UInt8) (v : Int) (m : Nat) (h0 : 0 ≤ v) (h1 : v ≤ 1048576) (hm : m ≤ 1048576) : restD fst0 0 (looseH v m ++ r) = restD ⟨true, m, v, [], []⟩ 3 r := by
  obtain ⟨L, hL⟩ : ∃ L : List UInt8, 32 :: 9 :: ([112] ++ 9 :: (32 :: ([99, 110, 102] ++ 32 :: (32 :: (itoa v ++ 32 :: (itoa (m : Int) ++ 32 :: [])))))) = L := ⟨_, rfl⟩
  have e : looseH v m ++ r = 99 :: [32, 112, 32, 99, 110, 102, 32, 49, 32, 49] ++ 10 :: (10 :: (L ++ 10 :: r)) := by
    rw [← hL]
    unfold looseH
    simp
  have hno : ∀ c ∈ L, c ≠ 10 := by
    rw [← hL]
    intro c hc
    simp only [List.cons_append, List.nil_append, List.mem_cons, List.mem_append, List.not_mem_nil, or_false] at hc
    rcases hc with rfl | rfl | rfl | rfl | rfl | rfl | rfl | rfl | rfl | rfl | hc | rfl | hc | rfl
    · decide
    · decide
    · decide
    · decide
    · decide
    · decide
    · decide
    · decide
    · decide
    · decide
    · exact (itoa_wordy v c hc).2
    · decide
    · exact (itoa_wordy _ c hc).2
    · decide
  have hw : wordsL [] L = [[112], [99, 110, 102], itoa v, itoa (m : Int)] := by
    rw [← hL, wordsL_blank 32 rfl, wordsL_blank 9 rfl, wordsL_next [112] (by simp) (by decide) 9 rfl, wordsL_blank 32 rfl, wordsL_next [99, 110, 102] (by simp) (by decide) 32 rfl, wordsL_blank 32 rfl, wordsL_next (itoa v) (itoa_bytes v).1 (fun c hc => (itoa_wordy v c hc).1) 32 rfl, wordsL_next (itoa (m : Int)) (itoa_bytes _).1 (fun c hc => (itoa_wordy _ c hc).1) 32 rfl]
    rfl
  have hp : hasPrefix L [99] = false := by rw [← hL]; rfl
  rw [e, restD_rem fst0 0 [32, 112, 32, 99, 110, 102, 32, 49, 32, 49] (by decide), restD_gap, restD_line r L hno hp v m h0 h1 hm hw]
theorem readD_loose (g : Nat → Nat) (v : Int) (l : List (List Int)) (h : formOk v l = true) (hl : l.length ≤ 1048576) :
    readD (mkB (looseH v l.length ++ looseW g (flatW l) 0)) = (⟨true, l.length, v, l, []⟩, 0, 0) := by
  unfold formOk at h
  rw [Bool.and_eq_true, decide_eq_true_eq] at h
  have he : endD ⟨true, l.length, v, l, []⟩ = 0 := by unfold endD; simp
  obtain ⟨m, h1⟩ := rest_mid ⟨true, l.length, v, [], []⟩ 2 rfl (looseW g (flatW l) 0) (loose_plain g _ 0)
  obtain ⟨m', j, h2⟩ := loose_clauses g l ⟨true, l.length, v, [], []⟩ m 0 rfl rfl h.2
  have h3 : midD ⟨true, l.length, v, [] ++ l, []⟩ m' (looseW g [] j) = restD ⟨true, l.length, v, [] ++ l, []⟩ (m' + 1) [] := midD_nil _ _
  rw [readD_mkB, restD_loose _ v l.length h.1.1 h.1.2 hl, h1, h2, h3, restD_nil]
  simp only [List.nil_append, he, if_true]
end Go.Proofs.YtejdjmcdlbcmeaaDoor.R
