/- What the reference's Spoken and heading come to. No conditions. -/
import Derived.Test.YtejdjmcdlbcmeaaDoorUx2
import Derived.Test.YtejdjmcdlbcmeaaDoorUx3
import Derived.Test.YtejdjmcdlbcmeaaDoorLinesU
set_option linter.unusedVariables false
set_option linter.unusedSimpArgs false
namespace Go.Proofs.YtejdjmcdlbcmeaaDoor.U
open Go.Proofs.YtejdjmcdlbcmeaaDoor.R Go.RowKit Go.Lib Go.Proofs.YtejdjmcdlbcmeaaDoorW.PrintWords Go.Proofs.YtejdjmcdlbcmeaaDoorW.PrintLast Go.Proofs.YtejdjmcdlbcmeaaDoorW.PrintMore

theorem rdOf_nat {α : Type} {z : α} {xs : List α} {n : Nat} (h : n < xs.length) : rdOf z xs (n : Int) = xs[n] := by
  unfold rdOf
  rw [Int.toNat_natCast, List.getD_eq_getElem?_getD, List.getElem?_eq_getElem h]
  rfl
theorem rdT_nat {xs : List S73} {n : Nat} (h : n < xs.length) : rd_T73 xs (n : Int) = xs[n] := by
  unfold rd_T73
  rw [Int.toNat_natCast, List.getD_eq_getElem?_getD, List.getElem?_eq_getElem h]
  rfl
/-- A line that is a remark. -/
def remB (s : ByteArray) : Bool := decide (0 < s.size) && (bt s 0 == 99)
def at_ (n : Nat) (w : ByteArray) : S73 := ⟨w, (n : Int)⟩
def spkB : List ByteArray → Nat → List S73
  | [], _ => []
  | s :: r, n => (if remB s then [] else (wordsB s).map (at_ (n + 1))) ++ spkB r (n + 1)
theorem spoken_l1 (X : List ByteArray) (i : Nat) (hi : i < 4398046511104) (ws : List ByteArray) (hw : ws.length ≤ 4398046511104) (q d : Nat) : ∀ (j : Nat) (acc : List S73), j ≤ ws.length → ws.length - j = d → acc.length + d ≤ 4398046511104 →
    depotref03_Spoken.l1 (d + 1 + q) X acc (i : Int) ws (j : Int) = depotref03_Spoken.l0 q X (acc ++ (ws.drop j).map (at_ (i + 1))) ((i + 1 : Nat) : Int) := by
  induction d with
  | zero =>
    intro j acc hj hd ha
    rw [show 0 + 1 + q = q + 1 by omega, depotref03_Spoken.l1, if_neg (by omega), List.drop_of_length_le (by omega), w64r (by omega) (by omega)]
    simp
  | succ d ih =>
    intro j acc hj hd ha
    have hlt : j < ws.length := by omega
    rw [show d + 1 + 1 + q = (d + 1 + q) + 1 by omega, depotref03_Spoken.l1, if_pos (by omega), if_pos (by omega), if_pos (by omega), rdOf_nat hlt, w64r (x := (i : Int) + 1) (by omega) (by omega), w64r (x := (j : Int) + 1) (by omega) (by omega), List.drop_eq_getElem_cons hlt]
    have hih := ih (j + 1) (acc ++ [at_ (i + 1) ws[j]]) (by omega) (by omega) (by rw [List.length_append, List.length_singleton]; omega)
    rw [List.map_cons]
    rw [List.append_assoc] at hih
    exact hih
theorem spoken_l0 (X : List ByteArray) (M : Nat) (hM : M ≤ 1099511627776) (hX : X.length < 4398046511104) (hs : ∀ s ∈ X, s.size ≤ M) (d : Nat) : ∀ (k i : Nat) (acc : List S73), i ≤ X.length → X.length - i = d → d * (M + 4) + 2 * M + 9 < k → acc.length + (spkB (X.drop i) i).length ≤ 4398046511104 →
    depotref03_Spoken.l0 k X acc (i : Int) = some (acc ++ spkB (X.drop i) i) := by
  induction d with
  | zero =>
    intro k i acc hi hd hk ha
    obtain ⟨k, rfl⟩ := succ_ofr hk
    rw [depotref03_Spoken.l0, if_neg (by omega), List.drop_of_length_le (by omega)]
    simp [spkB]
  | succ d ih =>
    intro k i acc hi hd hk ha
    have hlt : i < X.length := by omega
    have hsz := hs X[i] (List.getElem_mem hlt)
    have hdr := List.drop_eq_getElem_cons hlt
    rw [Nat.succ_mul] at hk
    obtain ⟨k, rfl⟩ := succ_ofr hk
    obtain ⟨k, rfl⟩ := succ_ofr (show 0 < k by omega)
    have hj : depotref03_Spoken.l0 (k + 1 + 1) X acc (i : Int) = depotref03_Spoken.j1 (k + 1) X acc (i : Int) (remB X[i]) := by
      rw [depotref03_Spoken.l0, if_pos (by omega), if_pos (by omega), rdOf_nat hlt]
      unfold remB
      by_cases h0 : 0 < (X[i]).size
      · rw [if_pos (show ((X[i]).size : Int) > 0 by omega), if_pos (by omega), decide_eq_true h0, Bool.true_and]
      · rw [if_neg (show ¬ ((X[i]).size : Int) > 0 by omega), decide_eq_false h0, Bool.false_and]
    rw [hj, depotref03_Spoken.j1, hdr]
    rw [hdr] at ha
    unfold spkB at ha ⊢
    cases hr : remB X[i] with
    | true =>
      rw [hr, if_pos rfl, List.nil_append] at ha
      rw [if_pos rfl, w64r (by omega) (by omega), if_pos rfl, List.nil_append]
      exact ih k (i + 1) acc (by omega) (by omega) (by omega) ha
    | false =>
      rw [hr, if_neg (by decide), List.length_append, List.length_map] at ha
      have hwl := wordsB_length X[i]
      simp only [Bool.false_eq_true, if_false]
      rw [if_pos (by omega), if_pos (by omega), rdOf_nat hlt, words_is _ (by omega) k (by omega)]
      simp only [Option.bind_some]
      obtain ⟨q, hq⟩ : ∃ q, k = (wordsB X[i]).length + 1 + q := ⟨k - ((wordsB X[i]).length + 1), by omega⟩
      have h1 := spoken_l1 X i (by omega) (wordsB X[i]) (by omega) q (wordsB X[i]).length 0 acc (by omega) (by omega) (by omega)
      rw [← hq, List.drop_zero] at h1
      refine h1.trans ?_
      rw [← List.append_assoc]
      exact ih q (i + 1) _ (by omega) (by omega) (by omega) (by rw [List.length_append, List.length_map]; omega)
theorem spoken_is (X : List ByteArray) (M : Nat) (hM : M ≤ 1099511627776) (hX : X.length < 4398046511104) (hs : ∀ s ∈ X, s.size ≤ M) (hw : (spkB X 0).length ≤ 4398046511104) (k : Nat) (hk : X.length * (M + 4) + 2 * M + 9 < k) :
    depotref03_Spoken.f k X = some (spkB X 0) := by
  unfold depotref03_Spoken.f
  have := spoken_l0 X M hM hX hs X.length k 0 [] (by omega) (by omega) hk (by simpa using hw)
  simpa using this
theorem heading_l0 (A B : List S73) (v : Int) (hA : ∀ x ∈ A, x.f1 = v) (hB : ∀ x ∈ B, x.f1 ≠ v) (h0 : 0 < A.length) (hl : (A ++ B).length ≤ 4398046511104) (d : Nat) : ∀ (k i : Nat), i ≤ A.length → A.length - i = d → d < k →
    depotref03_heading.l0 k (A ++ B) (i : Int) = some (A.length : Int) := by
  have hz : rd_T73 (A ++ B) 0 = A[0] := by
    have := rdT_nat (xs := A ++ B) (n := 0) (by rw [List.length_append]; omega)
    rw [List.getElem_append_left h0] at this
    exact this
  have hz1 : (A[0]).f1 = v := hA _ (List.getElem_mem h0)
  rw [List.length_append] at hl
  induction d with
  | zero =>
    intro k i hi hd hk
    obtain ⟨k, rfl⟩ := succ_ofr hk
    obtain rfl : i = A.length := by omega
    rw [depotref03_heading.l0]
    by_cases hb : B = []
    · subst hb
      rw [if_neg (by rw [List.append_nil]; omega)]
    · have hbl := List.length_pos_iff.2 hb
      have hin : A.length < (A ++ B).length := by rw [List.length_append]; omega
      have e : (A ++ B)[A.length]'hin = B[0] := by rw [List.getElem_append_right (by omega)]; simp
      rw [if_pos (by omega), if_pos (by omega), if_pos (by omega), rdT_nat hin, hz, hz1, e, if_neg (hB _ (List.getElem_mem hbl))]
  | succ d ih =>
    intro k i hi hd hk
    obtain ⟨k, rfl⟩ := succ_ofr hk
    have hin : i < (A ++ B).length := by rw [List.length_append]; omega
    have e : (A ++ B)[i]'hin = A[i]'(by omega) := List.getElem_append_left (by omega)
    rw [depotref03_heading.l0, if_pos (by omega), if_pos (by omega), if_pos (by omega), rdT_nat hin, hz, hz1, e, if_pos (hA _ (List.getElem_mem _)), w64r (by omega) (by omega)]
    exact ih k (i + 1) (by omega) (by omega) (by omega)
end Go.Proofs.YtejdjmcdlbcmeaaDoor.U
