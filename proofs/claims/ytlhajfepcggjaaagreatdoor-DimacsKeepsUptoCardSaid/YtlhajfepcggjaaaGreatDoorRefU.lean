/- What the reference's Words come to: the pieces between blanks. No conditions. What the reference's Lines come to: the text cut at its line feeds, as strings.Cut cuts it. No conditions. What the reference's Spoken and heading come to. No conditions. What the reference's Tens comes to: is the text a number written shortest? No conditions. The number that the program takes from a word, against the reference's Tens and Value. No conditions. The program's reading line by line against the reference's reading word by word. No conditions. What the reference's Read comes to: what the program's reading comes to. No conditions. The reference reads every text as the program does. No conditions. -/
import Derived.Test.YtlhajfepcggjaaaGreatDoorRx3
import Derived.Test.YtlhajfepcggjaaaGreatDoorRx4
import Derived.Test.YtlhajfepcggjaaaGreatDoorPureL
import Derived.Test.YtlhajfepcggjaaaGreatDoorReadD
import Derived.Test.YtlhajfepcggjaaaGreatDoorRx5
import Derived.Test.YtlhajfepcggjaaaGreatDoorEValueU
import Derived.Test.YtlhajfepcggjaaaGreatDoorRx10
set_option linter.unusedVariables false
set_option linter.unusedSimpArgs false
namespace Go.Proofs.YtlhajfepcggjaaaGreatDoor.U
open Go.Proofs.YtlhajfepcggjaaaGreatDoor.R
open Go.Proofs.YtlhajfepcggjaaaGreatDoor.R Go.RowKit Go.Lib Go.Proofs.YtlhajfepcggjaaaGreatDoorW.PrintWords Go.Proofs.YtlhajfepcggjaaaGreatDoorW.PrintLast Go.Proofs.YtlhajfepcggjaaaGreatDoorW.PrintMore

theorem w64r {x : Int} (h0 : -9223372036854775808 ≤ x) (h1 : x ≤ 9223372036854775807) : wrap64 x = x := by
 unfold wrap64; omega
theorem succ_ofr {k d : Nat} (h : d < k) : ∃ m, k = m + 1 := ⟨k - 1, by omega⟩
theorem bt_nat (s : ByteArray) (i : Nat) (h : i < s.size) : bt s (i : Int) = (by_ s i : Int) := by
 unfold bt by_
 rw [Int.toNat_natCast, dif_pos h]
 congr 1
 simp [ByteArray.get!, h]
 rfl
def ext_ (s : ByteArray) (x : Nat × Nat) : ByteArray := s.extract x.1 x.2
def open_ (a i : Nat) : Option Nat := if a < i then some a else none

theorem words_l0 (s : ByteArray) (hs : s.size ≤ 4398046511104) (d : Nat) : ∀ (k i a : Nat) (acc : List (Nat × Nat)), i ≤ s.size → s.size - i = d → a ≤ i → acc.length ≤ i → 2 * d + 3 < k →
  depotref03_Words.l0 k s (acc.map (ext_ s)) (a : Int) (i : Int) = some ((closeSpans s (spansB s d i (open_ a i) acc)).map (ext_ s)) := by
 induction d with
 | zero =>
  intro k i a acc h0 hd ha hl hk
  obtain ⟨k, rfl⟩ := succ_ofr hk
  obtain ⟨k, rfl⟩ := succ_ofr (show 1 < k by omega)
  obtain ⟨k, rfl⟩ := succ_ofr (show 0 < k by omega)
  obtain rfl : i = s.size := by omega
  rw [depotref03_Words.l0, if_pos (by omega), if_neg (by omega), depotref03_Words.j1, if_neg (by decide)]
  simp only [spansB, open_]
  by_cases hai : a < s.size
  ·rw [if_pos hai, if_pos (by omega), if_pos (by omega), if_pos (by omega), if_pos (by omega), if_pos (by rw [List.length_map]; omega)]
   rw [w64r (by omega) (by omega), depotref03_Words.l0, if_neg (by omega)]
   simp [closeSpans, ext_]
  ·rw [if_neg hai, if_neg (by omega), w64r (by omega) (by omega), depotref03_Words.l0, if_neg (by omega)]
   simp [closeSpans]
 | succ d ih =>
  intro k i a acc h0 hd ha hl hk
  obtain ⟨k, rfl⟩ := succ_ofr hk
  obtain ⟨k, rfl⟩ := succ_ofr (show 2 * d + 3 < k by omega)
  have hi : i < s.size := by omega
  have e1 : ((i : Int) + 1) = ((i + 1 : Nat) : Int) := by omega
  have gap : blankR (by_ s i) = true → depotref03_Words.j1 (k + 1) s (acc.map (ext_ s)) (a : Int) (i : Int) false = some ((closeSpans s (spansB s (d + 1) i (open_ a i) acc)).map (ext_ s)) := by
   intro hb
   rw [spansB_blank hb, depotref03_Words.j1, if_neg (by decide)]
   by_cases hai : a < i
   ·rw [if_pos (by omega), if_pos (by omega), if_pos (by omega), if_pos (by omega), if_pos (by rw [List.length_map]; omega), w64r (by omega) (by omega), e1]
    have := ih k (i + 1) (i + 1) (acc ++ [(a, i)]) (by omega) (by omega) (by omega) (by simp; omega) (by omega)
    rw [List.map_append] at this
    simp only [open_, if_pos hai]
    rw [open_, if_neg (Nat.lt_irrefl _)] at this
    simpa [ext_] using this
   ·rw [if_neg (by omega), w64r (by omega) (by omega), e1]
    have := ih k (i + 1) (i + 1) acc (by omega) (by omega) (by omega) (by omega) (by omega)
    simp only [open_, if_neg hai]
    rw [open_, if_neg (Nat.lt_irrefl _)] at this
    exact this
  have on : blankR (by_ s i) = false → depotref03_Words.j1 (k + 1) s (acc.map (ext_ s)) (a : Int) (i : Int) true = some ((closeSpans s (spansB s (d + 1) i (open_ a i) acc)).map (ext_ s)) := by
   intro hb
   rw [spansB_word hb, depotref03_Words.j1, if_pos rfl, w64r (by omega) (by omega), e1]
   have := ih k (i + 1) a acc (by omega) (by omega) (by omega) (by omega) (by omega)
   rw [this]
   have e2 : open_ a (i + 1) = some (match open_ a i with | some a => a | none => i) := by
    unfold open_
    by_cases hai : a < i
    ·rw [if_pos hai, if_pos (by omega)]
    ·rw [if_neg hai, if_pos (by omega)]
     obtain rfl : a = i := by omega
     rfl
   first
    | (rw [e2]; done)
    | (rw [e2]; rfl)
  rw [depotref03_Words.l0, if_pos (by omega), if_pos (by omega), if_pos (by omega), bt_nat s i hi]
  by_cases h32 : (by_ s i : Int) = 32
  ·rw [if_pos h32]
   exact gap (by unfold blankR; rw [Bool.or_eq_true]; exact Or.inl (beq_iff_eq.2 (by omega)))
  ·rw [if_neg h32]
   by_cases h9 : (by_ s i : Int) = 9
   ·have hb : blankR (by_ s i) = true := by unfold blankR; rw [Bool.or_eq_true]; exact Or.inr (beq_iff_eq.2 (by omega))
    rw [h9, bne_self_eq_false]
    exact gap hb
   ·have hb : blankR (by_ s i) = false := by
     unfold blankR
     rw [Bool.or_eq_false_iff]
     exact ⟨beq_eq_false_iff_ne.2 (by omega), beq_eq_false_iff_ne.2 (by omega)⟩
    rw [bne_iff_ne.2 h9]
    exact on hb
theorem words_is (s : ByteArray) (hs : s.size ≤ 4398046511104) (k : Nat) (hk : 2 * s.size + 3 < k) : depotref03_Words.f k s = some (wordsB s) := by
 unfold depotref03_Words.f wordsB
 exact words_l0 s hs s.size k 0 0 [] (by omega) (by omega) (by omega) (by simp) hk
end Go.Proofs.YtlhajfepcggjaaaGreatDoor.U

set_option linter.unusedVariables false
set_option linter.unusedSimpArgs false
namespace Go.Proofs.YtlhajfepcggjaaaGreatDoor.U
open Go.Proofs.YtlhajfepcggjaaaGreatDoor.R
open Go.Proofs.YtlhajfepcggjaaaGreatDoor.R Go.RowKit Go.Lib Go.Proofs.YtlhajfepcggjaaaGreatDoorW.PrintWords Go.Proofs.YtlhajfepcggjaaaGreatDoorW.PrintLast Go.Proofs.YtlhajfepcggjaaaGreatDoorW.PrintMore

theorem lines_l0 (s : ByteArray) (hs : s.size ≤ 4398046511104) (d : Nat) : ∀ (k i a n : Nat) (acc : List ByteArray), i ≤ s.size → s.size - i = d → a ≤ i → (∀ j, a + j < i → (s.data.toList.drop a)[j]? ≠ some 10) → acc.length ≤ i → d + 1 < k → s.size - a ≤ n →
  depotref03_Lines.l0 k s acc (a : Int) (i : Int) = some (acc ++ (linesL n (s.data.toList.drop a)).map mk_) := by
 have hsz : s.data.toList.length = s.size := by simp
 induction d with
 | zero =>
  intro k i a n acc h0 hd ha hno hl hk hn
  obtain ⟨k, rfl⟩ := succ_ofr hk
  obtain rfl : i = s.size := by omega
  rw [depotref03_Lines.l0, if_neg (by omega)]
  by_cases hai : a < s.size
  ·rw [if_pos (by omega), if_pos (by omega), if_pos (by omega), if_pos (by omega)]
   obtain ⟨n, rfl⟩ : ∃ m, n = m + 1 := ⟨n - 1, by omega⟩
   have hne : s.data.toList.drop a ≠ [] := by
    intro h
    have := congrArg List.length h
    simp [hsz] at this
    omega
   have hc := cut_no (s.data.toList.drop a) (fun j => by
    rcases Nat.lt_or_ge (a + j) s.size with hj | hj
    ·exact hno j hj
    ·rw [List.getElem?_drop, List.getElem?_eq_none (by omega)]; simp)
   rw [linesL, if_neg hne, hc, linesL_nil]
   congr 2
   simp only [List.map_cons, List.map_nil, Int.toNat_natCast]
   rw [extract_mk]
   congr 2
   rw [List.take_of_length_le]
   simp [hsz]
  ·rw [if_neg (by omega)]
   rw [List.drop_of_length_le (by omega), linesL_nil]
   simp
 | succ d ih =>
  intro k i a n acc h0 hd ha hno hl hk hn
  obtain ⟨k, rfl⟩ := succ_ofr hk
  have hi : i < s.size := by omega
  have e1 : ((i : Int) + 1) = ((i + 1 : Nat) : Int) := by omega
  have hby : (s.data.toList.drop a)[i - a]? = some (UInt8.ofNat (by_ s i)) := by rw [List.getElem?_drop, show a + (i - a) = i by omega]; exact by_at s i hi
  have hlt : by_ s i < 256 := by unfold by_; exact UInt8.toNat_lt _
  rw [depotref03_Lines.l0, if_pos (by omega), if_pos (by omega), bt_nat s i hi]
  by_cases h10 : (by_ s i : Int) = 10
  ·rw [if_pos h10, if_pos (by omega), if_pos (by omega), if_pos (by omega), if_pos (by omega), w64r (by omega) (by omega), e1]
   obtain ⟨n, rfl⟩ : ∃ m, n = m + 1 := ⟨n - 1, by omega⟩
   have hc := cut_at (s.data.toList.drop a) (i - a) (fun j hj => hno j (by omega)) (by rw [hby]; congr 1; rw [show by_ s i = 10 by omega]; rfl)
   have hne : s.data.toList.drop a ≠ [] := by
    intro h
    rw [h] at hby
    cases hby
   rw [ih k (i + 1) (i + 1) n (acc ++ [s.extract (a : Int).toNat (i : Int).toNat]) (by omega) (by omega) (by omega) (fun j hj => by omega) (by simp; omega) (by omega) (by omega)]
   rw [linesL, if_neg hne, hc]
   simp only [List.map_cons, Int.toNat_natCast, List.append_assoc, List.singleton_append, List.drop_drop]
   rw [extract_mk, show a + (i - a + 1) = i + 1 by omega]
  ·rw [if_neg h10, w64r (by omega) (by omega), e1]
   refine ih k (i + 1) a n acc (by omega) (by omega) (by omega) (fun j hj => ?_) (by omega) (by omega) hn
   rcases Nat.lt_or_ge (a + j) i with hj2 | hj2
   ·exact hno j hj2
   ·obtain rfl : j = i - a := by omega
    rw [hby]
    intro h
    have := congrArg UInt8.toNat (Option.some.inj h)
    simp [UInt8.toNat_ofNat'] at this
    omega
theorem lines_is (s : ByteArray) (hs : s.size ≤ 4398046511104) (k : Nat) (hk : s.size + 1 < k) : depotref03_Lines.f k s = some ((linesL s.size s.data.toList).map mk_) := by
 unfold depotref03_Lines.f
 have := lines_l0 s hs s.size k 0 0 s.size [] (by omega) (by omega) (by omega) (fun j hj => by omega) (by simp) hk (by omega)
 simpa using this
end Go.Proofs.YtlhajfepcggjaaaGreatDoor.U

set_option linter.unusedVariables false
set_option linter.unusedSimpArgs false
namespace Go.Proofs.YtlhajfepcggjaaaGreatDoor.U
open Go.Proofs.YtlhajfepcggjaaaGreatDoor.R
open Go.Proofs.YtlhajfepcggjaaaGreatDoor.R Go.RowKit Go.Lib Go.Proofs.YtlhajfepcggjaaaGreatDoorW.PrintWords Go.Proofs.YtlhajfepcggjaaaGreatDoorW.PrintLast Go.Proofs.YtlhajfepcggjaaaGreatDoorW.PrintMore

theorem rdOf_nat {α : Type} {z : α} {xs : List α} {n : Nat} (h : n < xs.length) : rdOf z xs (n : Int) = xs[n] := by
 unfold rdOf
 rw [Int.toNat_natCast, List.getD_eq_getElem?_getD, List.getElem?_eq_getElem h]
 rfl
theorem rdT_nat {xs : List S84} {n : Nat} (h : n < xs.length) : rd_T84 xs (n : Int) = xs[n] := by
 unfold rd_T84
 rw [Int.toNat_natCast, List.getD_eq_getElem?_getD, List.getElem?_eq_getElem h]
 rfl
/-- A line that is a remark. -/
def remB (s : ByteArray) : Bool := decide (0 < s.size) && (bt s 0 == 99)
def at_ (n : Nat) (w : ByteArray) : S84 := ⟨w, (n : Int)⟩
def spkB : List ByteArray → Nat → List S84
 | [], _ => []
 | s :: r, n => (if remB s then [] else (wordsB s).map (at_ (n + 1))) ++ spkB r (n + 1)
theorem spoken_l1 (X : List ByteArray) (i : Nat) (hi : i < 4398046511104) (ws : List ByteArray) (hw : ws.length ≤ 4398046511104) (q d : Nat) : ∀ (j : Nat) (acc : List S84), j ≤ ws.length → ws.length - j = d → acc.length + d ≤ 4398046511104 →
  depotref03_Spoken.l1 (d + 1 + q) X acc (i : Int) ws (j : Int) = depotref03_Spoken.l0 q X (acc ++ (ws.drop j).map (at_ (i + 1))) ((i + 1 : Nat) : Int) := by
 induction d with
 | zero =>
  intro j acc hj hd ha
  rw [show 0 + 1 + q = q + 1 by omega, depotref03_Spoken.l1, if_neg (by omega), List.drop_of_length_le (by omega), w64r (by omega) (by omega)]
  simp
 | succ d ih =>
  intro j acc hj hd ha
  have hlt : j < ws.length := by omega
  rw [show d + 1 + 1 + q = (d + 1 + q) + 1 by omega, depotref03_Spoken.l1, if_pos (by omega), if_pos (by omega), if_pos (by omega), rdOf_nat hlt, w64r (x := (i : Int) + 1) (by omega) (by omega), w64r (x := (j : Int) + 1) (by omega) (by omega), List.drop_eq_getElem_cons hlt]
  have hih := ih (j + 1) (acc ++ [at_ (i + 1) ws[j]]) (by omega) (by omega) (by rw [List.length_append, List.length_singleton]; omega)
  rw [List.map_cons]
  rw [List.append_assoc] at hih
  exact hih
theorem spoken_l0 (X : List ByteArray) (M : Nat) (hM : M ≤ 1099511627776) (hX : X.length < 4398046511104) (hs : ∀ s ∈ X, s.size ≤ M) (d : Nat) : ∀ (k i : Nat) (acc : List S84), i ≤ X.length → X.length - i = d → d * (M + 4) + 2 * M + 9 < k → acc.length + (spkB (X.drop i) i).length ≤ 4398046511104 →
  depotref03_Spoken.l0 k X acc (i : Int) = some (acc ++ spkB (X.drop i) i) := by
 induction d with
 | zero =>
  intro k i acc hi hd hk ha
  obtain ⟨k, rfl⟩ := succ_ofr hk
  rw [depotref03_Spoken.l0, if_neg (by omega), List.drop_of_length_le (by omega)]
  simp [spkB]
 | succ d ih =>
  intro k i acc hi hd hk ha
  have hlt : i < X.length := by omega
  have hsz := hs X[i] (List.getElem_mem hlt)
  have hdr := List.drop_eq_getElem_cons hlt
  rw [Nat.succ_mul] at hk
  obtain ⟨k, rfl⟩ := succ_ofr hk
  obtain ⟨k, rfl⟩ := succ_ofr (show 0 < k by omega)
  have hj : depotref03_Spoken.l0 (k + 1 + 1) X acc (i : Int) = depotref03_Spoken.j1 (k + 1) X acc (i : Int) (remB X[i]) := by
   rw [depotref03_Spoken.l0, if_pos (by omega), if_pos (by omega), rdOf_nat hlt]
   unfold remB
   by_cases h0 : 0 < (X[i]).size
   ·rw [if_pos (show ((X[i]).size : Int) > 0 by omega), if_pos (by omega), decide_eq_true h0, Bool.true_and]
   ·rw [if_neg (show ¬ ((X[i]).size : Int) > 0 by omega), decide_eq_false h0, Bool.false_and]
  rw [hj, depotref03_Spoken.j1, hdr]
  rw [hdr] at ha
  unfold spkB at ha ⊢
  cases hr : remB X[i] with
  | true =>
   rw [hr, if_pos rfl, List.nil_append] at ha
   rw [if_pos rfl, w64r (by omega) (by omega), if_pos rfl, List.nil_append]
   exact ih k (i + 1) acc (by omega) (by omega) (by omega) ha
  | false =>
   rw [hr, if_neg (by decide), List.length_append, List.length_map] at ha
   have hwl := wordsB_length X[i]
   simp only [Bool.false_eq_true, if_false]
   rw [if_pos (by omega), if_pos (by omega), rdOf_nat hlt, words_is _ (by omega) k (by omega)]
   simp only [Option.bind_some]
   obtain ⟨q, hq⟩ : ∃ q, k = (wordsB X[i]).length + 1 + q := ⟨k - ((wordsB X[i]).length + 1), by omega⟩
   have h1 := spoken_l1 X i (by omega) (wordsB X[i]) (by omega) q (wordsB X[i]).length 0 acc (by omega) (by omega) (by omega)
   rw [← hq, List.drop_zero] at h1
   refine h1.trans ?_
   rw [← List.append_assoc]
   exact ih q (i + 1) _ (by omega) (by omega) (by omega) (by rw [List.length_append, List.length_map]; omega)
theorem spoken_is (X : List ByteArray) (M : Nat) (hM : M ≤ 1099511627776) (hX : X.length < 4398046511104) (hs : ∀ s ∈ X, s.size ≤ M) (hw : (spkB X 0).length ≤ 4398046511104) (k : Nat) (hk : X.length * (M + 4) + 2 * M + 9 < k) :
  depotref03_Spoken.f k X = some (spkB X 0) := by
 unfold depotref03_Spoken.f
 have := spoken_l0 X M hM hX hs X.length k 0 [] (by omega) (by omega) hk (by simpa using hw)
 simpa using this
theorem heading_l0 (A B : List S84) (v : Int) (hA : ∀ x ∈ A, x.f1 = v) (hB : ∀ x ∈ B, x.f1 ≠ v) (h0 : 0 < A.length) (hl : (A ++ B).length ≤ 4398046511104) (d : Nat) : ∀ (k i : Nat), i ≤ A.length → A.length - i = d → d < k →
  depotref03_heading.l0 k (A ++ B) (i : Int) = some (A.length : Int) := by
 have hz : rd_T84 (A ++ B) 0 = A[0] := by
  have := rdT_nat (xs := A ++ B) (n := 0) (by rw [List.length_append]; omega)
  rw [List.getElem_append_left h0] at this
  exact this
 have hz1 : (A[0]).f1 = v := hA _ (List.getElem_mem h0)
 rw [List.length_append] at hl
 induction d with
 | zero =>
  intro k i hi hd hk
  obtain ⟨k, rfl⟩ := succ_ofr hk
  obtain rfl : i = A.length := by omega
  rw [depotref03_heading.l0]
  by_cases hb : B = []
  ·subst hb
   rw [if_neg (by rw [List.append_nil]; omega)]
  ·have hbl := List.length_pos_iff.2 hb
   have hin : A.length < (A ++ B).length := by rw [List.length_append]; omega
   have e : (A ++ B)[A.length]'hin = B[0] := by rw [List.getElem_append_right (by omega)]; simp
   rw [if_pos (by omega), if_pos (by omega), if_pos (by omega), rdT_nat hin, hz, hz1, e, if_neg (hB _ (List.getElem_mem hbl))]
 | succ d ih =>
  intro k i hi hd hk
  obtain ⟨k, rfl⟩ := succ_ofr hk
  have hin : i < (A ++ B).length := by rw [List.length_append]; omega
  have e : (A ++ B)[i]'hin = A[i]'(by omega) := List.getElem_append_left (by omega)
  rw [depotref03_heading.l0, if_pos (by omega), if_pos (by omega), if_pos (by omega), rdT_nat hin, hz, hz1, e, if_pos (hA _ (List.getElem_mem _)), w64r (by omega) (by omega)]
  exact ih k (i + 1) (by omega) (by omega) (by omega)
end Go.Proofs.YtlhajfepcggjaaaGreatDoor.U

set_option linter.unusedVariables false
set_option linter.unusedSimpArgs false
namespace Go.Proofs.YtlhajfepcggjaaaGreatDoor.U
open Go.Proofs.YtlhajfepcggjaaaGreatDoor.R
open Go.Proofs.YtlhajfepcggjaaaGreatDoor.R Go.RowKit Go.Lib Go.Proofs.YtlhajfepcggjaaaGreatDoorW.PrintWords Go.Proofs.YtlhajfepcggjaaaGreatDoorW.PrintLast Go.Proofs.YtlhajfepcggjaaaGreatDoorW.PrintMore

def tensB (l : List UInt8) : Bool :=
 match l with
 | [] => false
 | c :: r => if c = 45 then decide (r ≠ [48]) && canon r else canon l
theorem by_get (s : ByteArray) (i : Nat) (h : i < s.size) : s.data.toList[i]'(by simpa using h) = UInt8.ofNat (by_ s i) := by
 have := by_at s i h
 rw [List.getElem?_eq_getElem (by simpa using h)] at this
 exact Option.some.inj this
theorem by_lt (s : ByteArray) (i : Nat) : by_ s i < 256 := by unfold by_; exact UInt8.toNat_lt _
theorem digit_by (s : ByteArray) (i : Nat) : digit (UInt8.ofNat (by_ s i)) = decide (48 ≤ by_ s i ∧ by_ s i ≤ 57) := by
 unfold digit
 rw [UInt8.toNat_ofNat', Nat.mod_eq_of_lt (by_lt s i)]
theorem tens_l0 (s : ByteArray) (hs : s.size ≤ 4398046511104) (d : Nat) : ∀ (k i : Nat), i ≤ s.size → s.size - i = d → d < k → depotref03_Tens.l0 k s (i : Int) = some ((s.data.toList.drop i).all digit) := by
 have hsz : s.data.toList.length = s.size := by simp
 induction d with
 | zero =>
  intro k i h0 hd hk
  obtain ⟨k, rfl⟩ := succ_ofr hk
  rw [depotref03_Tens.l0, if_neg (by omega), List.drop_of_length_le (by omega)]
  rfl
 | succ d ih =>
  intro k i h0 hd hk
  obtain ⟨k, rfl⟩ := succ_ofr hk
  have hi : i < s.size := by omega
  rw [depotref03_Tens.l0, if_pos (by omega), if_pos (by omega), bt_nat s i hi, List.drop_eq_getElem_cons (by omega), List.all_cons, by_get s i hi, digit_by]
  by_cases h1 : (by_ s i : Int) < 48
  ·rw [if_pos h1, decide_eq_false (by omega)]; rfl
  ·rw [if_neg h1]
   by_cases h2 : (by_ s i : Int) > 57
   ·rw [if_pos h2, decide_eq_false (by omega)]; rfl
   ·rw [if_neg h2, decide_eq_true (by omega), w64r (by omega) (by omega)]
    have := ih k (i + 1) (by omega) (by omega) (by omega)
    simpa using this
theorem tens_j1 (s : ByteArray) (hs : s.size ≤ 4398046511104) (k : Nat) (hk : s.size + 2 < k) : depotref03_Tens.j1 k s = some (canon s.data.toList) := by
 have hsz : s.data.toList.length = s.size := by simp
 obtain ⟨k, rfl⟩ := succ_ofr hk
 obtain ⟨k, rfl⟩ := succ_ofr (show s.size + 1 < k by omega)
 have l0 : depotref03_Tens.l0 k s 0 = some (s.data.toList.all digit) := by
  have := tens_l0 s hs s.size k 0 (by omega) (by omega) (by omega)
  simpa using this
 rw [depotref03_Tens.j1]
 by_cases h0 : (s.size : Int) = 0
 ·rw [if_pos h0, depotref03_Tens.j2, if_pos rfl]
  have : s.data.toList = [] := List.eq_nil_of_length_eq_zero (by omega)
  rw [this]
  rfl
 ·rw [if_neg h0]
  have hg : s.data.toList[0]? = some (UInt8.ofNat (by_ s 0)) := by_at s 0 (by omega)
  by_cases h1 : (s.size : Int) > 1
  ·rw [if_pos h1, if_pos (by omega), depotref03_Tens.j2]
   have hb : bt s 0 = (by_ s 0 : Int) := bt_nat s 0 (by omega)
   rw [hb]
   generalize hl : s.data.toList = l at *
   match l, hsz, hg with
   | [], hsz, _ => simp at hsz; omega
   | [a], hsz, _ => simp at hsz; omega
   | a :: b :: r, hsz, hg =>
    have ha : a = UInt8.ofNat (by_ s 0) := Option.some.inj hg
    have hlt := by_lt s 0
    by_cases h48 : (by_ s 0 : Int) = 48
    ·rw [h48, beq_self_eq_true, if_pos rfl]
     have : a = 48 := by rw [ha, show by_ s 0 = 48 by omega]; rfl
     rw [this]
     simp [canon]
    ·rw [if_neg (by rw [beq_iff_eq]; exact h48), l0]
     have : a ≠ 48 := by
      intro e
      rw [ha] at e
      have := congrArg UInt8.toNat e
      rw [UInt8.toNat_ofNat', Nat.mod_eq_of_lt hlt] at this
      have e48 : (48 : UInt8).toNat = 48 := rfl
      omega
     show some ((a :: b :: r).all digit) = some ((a :: b :: r).all digit && (a != 48))
     rw [bne_iff_ne.2 this, Bool.and_true]
  ·rw [if_neg h1, depotref03_Tens.j2, if_neg (by decide), l0]
   clear hg l0
   generalize hl : s.data.toList = l at *
   match l, hsz with
   | [], hsz => simp at hsz; omega
   | [a], hsz => simp [canon]
   | a :: b :: r, hsz => simp at hsz; omega
theorem tens_is (s : ByteArray) (hs : s.size ≤ 4398046511104) (k : Nat) (hk : s.size + 3 < k) : depotref03_Tens.f k s = some (tensB s.data.toList) := by
 have hsz : s.data.toList.length = s.size := by simp
 obtain ⟨k, rfl⟩ := succ_ofr hk
 unfold depotref03_Tens.f
 by_cases h0 : (s.size : Int) > 0
 ·rw [if_pos h0, if_pos (by omega), depotref03_Tens.j0]
  have hb : bt s 0 = (by_ s 0 : Int) := bt_nat s 0 (by omega)
  have hg := by_get s 0 (by omega)
  have hlt := by_lt s 0
  rw [hb]
  have hne : s.data.toList ≠ [] := by intro h; rw [h] at hsz; simp at hsz; omega
  obtain ⟨a, r, har⟩ := List.exists_cons_of_ne_nil hne
  have ha : a = UInt8.ofNat (by_ s 0) := by
   have := hg
   simp only [har, List.getElem_cons_zero] at this
   exact this
  by_cases h45 : (by_ s 0 : Int) = 45
  ·have ea : a = 45 := by rw [ha, show by_ s 0 = 45 by omega]; rfl
   rw [h45, beq_self_eq_true, if_pos rfl, if_pos (by omega)]
   have hx : (s.extract 1 s.size).data.toList = r := by
    rw [extract_data, har]
    simp only [List.drop_succ_cons, List.drop_zero]
    rw [List.take_of_length_le]
    rw [har] at hsz
    simp at hsz
    omega
   have hxs : (s.extract 1 s.size).size ≤ s.size := by simp
   rw [ByteArray.toList_eq, hx, har]
   simp only [tensB]
   rw [if_pos ea]
   by_cases hr : r = [48]
   ·rw [if_pos hr, hr]; rfl
   ·rw [if_neg hr, tens_j1 _ (by omega) k (by omega), hx, decide_eq_true hr, Bool.true_and]
  ·rw [if_neg (by rw [beq_iff_eq]; exact h45), tens_j1 s hs k (by omega), har]
   have ea : a ≠ 45 := by
    intro e
    rw [ha] at e
    have := congrArg UInt8.toNat e
    rw [UInt8.toNat_ofNat', Nat.mod_eq_of_lt hlt] at this
    have e45 : (45 : UInt8).toNat = 45 := rfl
    omega
   simp only [tensB]
   rw [if_neg ea]
 ·rw [if_neg h0, depotref03_Tens.j0, if_neg (by decide), tens_j1 s hs k (by omega)]
  have : s.data.toList = [] := List.eq_nil_of_length_eq_zero (by omega)
  rw [this]
  rfl
end Go.Proofs.YtlhajfepcggjaaaGreatDoor.U

set_option linter.unusedVariables false
set_option linter.unusedSimpArgs false
namespace Go.Proofs.YtlhajfepcggjaaaGreatDoor.U
open Go.Proofs.YtlhajfepcggjaaaGreatDoor.R
open Go.Proofs.YtlhajfepcggjaaaGreatDoor.R Go.RowKit Go.Lib Go.Proofs.YtlhajfepcggjaaaGreatDoorW.PrintWords Go.Proofs.YtlhajfepcggjaaaGreatDoorW.PrintLast Go.Proofs.YtlhajfepcggjaaaGreatDoorW.PrintMore

theorem canon_ne {D : List UInt8} (h : canon D = true) : D ≠ [] := by intro e; rw [e] at h; simp [canon] at h
theorem canon_head {c : UInt8} {r : List UInt8} (h : canon (c :: r) = true) : 48 ≤ c.toNat ∧ c.toNat ≤ 57 := by
 have := canon_digits h
 rw [List.all_cons, Bool.and_eq_true] at this
 exact digit_iff this.1
theorem canon_pos {D : List UInt8} (h : canon D = true) (h0 : D ≠ [48]) : pw (D.length - 1) ≤ val_ 0 D := by
 match D, h, h0 with
 | [], h, _ => simp [canon] at h
 | c :: r, h, h0 =>
  have hc := canon_head h
  have hne : c.toNat ≠ 48 := by
   intro e
   have ec : c = 48 := UInt8.toNat_inj.1 e
   cases r with
   | nil => exact h0 (by rw [ec])
   | cons b r =>
    unfold canon at h
    rw [Bool.and_eq_true] at h
    exact (bne_iff_ne.1 h.2) ec
  have hb := val_big r (0 * 10 + (c.toNat - 48))
  have h1 : 1 * pw r.length ≤ (0 * 10 + (c.toNat - 48)) * pw r.length := Nat.mul_le_mul_right _ (by omega)
  show pw r.length ≤ val_ (0 * 10 + (c.toNat - 48)) r
  omega
theorem atoi_pos {D : List UInt8} (h : canon D = true) (hv : val_ 0 D < 9223372036854775808) : atoiAll D = .ok (val_ 0 D : Nat) := by
 match D, h, hv with
 | [], h, _ => simp [canon] at h
 | c :: r, h, hv =>
  have hc := canon_head h
  have hp := parse_ok (c :: r) (canon_digits h) 0 (by omega)
  have hm : parseMag (c :: r) = .ok (val_ 0 (c :: r)) := by unfold parseMag; rw [if_neg (by simp)]; exact hp
  unfold atoiAll
  simp only
  rw [if_neg (by omega), hm]
  simp only
  rw [if_neg (by omega), if_neg (by omega), if_neg (by omega)]
theorem atoi_neg {D : List UInt8} (h : canon D = true) (hv : val_ 0 D < 9223372036854775808) : atoiAll (45 :: D) = .ok (-(val_ 0 D : Nat) : Int) := by
 have hp := parse_ok D (canon_digits h) 0 (by omega)
 have hm : parseMag D = .ok (val_ 0 D) := by unfold parseMag; rw [if_neg (canon_ne h)]; exact hp
 have e45 : (45 : UInt8).toNat = 45 := rfl
 unfold atoiAll
 simp only
 rw [if_pos (Or.inr e45), hm]
 simp only
 rw [if_neg (by omega), if_neg (by omega), if_pos e45]
theorem bt_head (w : ByteArray) {c : UInt8} {r : List UInt8} (h : w.data.toList = c :: r) : bt w 0 = (c.toNat : Int) := by
 have hsz : w.data.toList.length = w.size := by simp
 have h0 : 0 < w.size := by rw [← hsz, h]; simp
 have e := bt_nat w 0 h0
 have hg := by_at w 0 h0
 rw [h] at hg
 have hc : c = UInt8.ofNat (by_ w 0) := Option.some.inj hg
 rw [hc, UInt8.toNat_ofNat', Nat.mod_eq_of_lt (by_lt w 0)]
 exact e
/-- The running number, held at 2^31. -/
theorem numFrom_spec (l : List UInt8) (d : Nat) : ∀ (pos n m : Nat), pos + d = l.length → m = min n 2147483648 →
  (numFrom (mkB l) d pos (m : Int)).2 = (l.drop pos).all digit ∧ ((l.drop pos).all digit = true → (numFrom (mkB l) d pos (m : Int)).1 = ((min (val_ n (l.drop pos)) 2147483648 : Nat) : Int)) := by
 induction d with
 | zero =>
  intro pos n m hp hm
  rw [List.drop_of_length_le (by omega)]
  exact ⟨rfl, fun _ => by rw [hm]; rfl⟩
 | succ d ih =>
  intro pos n m hp hm
  have hlt : pos < l.length := by omega
  rw [List.drop_eq_getElem_cons hlt, numFrom, by_mkB l pos hlt, List.all_cons]
  have hdd : digB (l[pos]).toNat = digit l[pos] := rfl
  rw [hdd]
  cases hd : digit l[pos] with
  | false =>
   rw [if_neg (by decide)]
   exact ⟨rfl, fun h => by simp at h⟩
  | true =>
   have hdi := digit_iff hd
   have hst : stepN (m : Int) (l[pos]).toNat = ((min (n * 10 + ((l[pos]).toNat - 48)) 2147483648 : Nat) : Int) := by
    unfold stepN
    by_cases hb : (m : Int) < 2147483648
    ·rw [if_pos hb]; omega
    ·rw [if_neg hb]; omega
   rw [if_pos rfl, hst, Bool.true_and]
   exact ih (pos + 1) (n * 10 + ((l[pos]).toNat - 48)) _ (by omega) rfl
theorem canon_is (c : UInt8) (r : List UInt8) : canon (c :: r) = if c = 48 ∧ r ≠ [] then false else (c :: r).all digit := by
 cases r with
 | nil => rw [if_neg (by simp)]; simp [canon]
 | cons b r =>
  by_cases hc : c = 48
  ·rw [if_pos ⟨hc, by simp⟩, hc]; simp [canon]
  ·rw [if_neg (fun h => hc h.1)]
   have e : canon (c :: b :: r) = ((c :: b :: r).all digit && (c != 48)) := rfl
   have : (c != 48) = true := bne_iff_ne.2 hc
   rw [e, this, Bool.and_true]
/-- The number that a word in tens says, held at 2^31. -/
def satN (l : List UInt8) : Int := match l with
 | [] => 0
 | c :: r => if c = 45 then -((min (val_ 0 r) 2147483648 : Nat) : Int) else ((min (val_ 0 (c :: r)) 2147483648 : Nat) : Int)
theorem eq48 (c : UInt8) : (c.toNat = 48) = (c = 48) := propext ⟨fun h => UInt8.toNat_inj.1 (show c.toNat = (48 : UInt8).toNat from h), fun h => by rw [h]; rfl⟩
theorem num_is (l : List UInt8) : (numR (mkB l)).2 = tensB l ∧ (tensB l = true → (numR (mkB l)).1 = satN l) := by
 cases l with
 | nil => exact ⟨rfl, fun h => by simp [tensB] at h⟩
 | cons c r =>
  by_cases hc : c = 45
  ·subst hc
   have hp : hasPrefix (mkB (45 :: r)).data.toList [45] = true := by rw [mkB_list]; simp [hasPrefix, List.isPrefixOf]
   have hT : tensB (45 :: r) = (decide (r ≠ [48]) && canon r) := by unfold tensB; simp
   have hS : satN (45 :: r) = -((min (val_ 0 r) 2147483648 : Nat) : Int) := rfl
   have hs : (mkB (45 :: r)).size = r.length + 1 := by rw [mkB_size]; rfl
   rw [hT, hS]
   unfold numR
   rw [if_pos hp]
   unfold numAt
   rw [hs]
   cases r with
   | nil => rw [if_pos (Or.inl (show 1 = ([] : List UInt8).length + 1 from rfl))]; exact ⟨by simp [canon], fun h => by simp [canon] at h⟩
   | cons b r =>
    have hb : by_ (mkB (45 :: b :: r)) 1 = b.toNat := by rw [by_mkB (45 :: b :: r) 1 (by simp)]; rfl
    rw [hb]
    by_cases h48 : b = 48
    ·have e : (decide (b :: r ≠ [48]) && canon (b :: r)) = false := by
      rw [canon_is]
      by_cases hr : r = []
      ·subst hr; subst h48; rfl
      ·rw [if_pos ⟨h48, hr⟩, Bool.and_false]
     rw [e, if_pos (Or.inr ⟨(eq48 b).symm ▸ h48, by simp⟩)]
     exact ⟨rfl, fun h => by cases h⟩
    ·have e : (decide (b :: r ≠ [48]) && canon (b :: r)) = (b :: r).all digit := by
      rw [canon_is, if_neg (fun h => h48 h.1), decide_eq_true (show b :: r ≠ [48] from fun h => h48 (List.head_eq_of_cons_eq h)), Bool.true_and]
     rw [e, if_neg (by
      rintro (h | h)
      ·simp at h
      ·rw [eq48] at h; exact h48 h.1)]
     have hn := numFrom_spec (45 :: b :: r) (b :: r).length 1 0 0 (by simp; omega) rfl
     rw [show (45 :: b :: r).drop 1 = b :: r from rfl] at hn
     rw [show (b :: r).length + 1 - 1 = (b :: r).length by omega]
     refine ⟨hn.1, fun h => ?_⟩
     have := hn.2 h
     rw [show (((0 : Nat)) : Int) = 0 from rfl] at this
     simp only
     rw [this]
     omega
  ·have hp : hasPrefix (mkB (c :: r)).data.toList [45] = false := by
    rw [mkB_list]
    have : (45 : UInt8) ≠ c := fun e => hc e.symm
    simp [hasPrefix, List.isPrefixOf, this]
   have hT : tensB (c :: r) = canon (c :: r) := by
    show (if c = 45 then _ else canon (c :: r)) = _
    rw [if_neg hc]
   have hS : satN (c :: r) = ((min (val_ 0 (c :: r)) 2147483648 : Nat) : Int) := by
    show (if c = 45 then _ else _) = _
    rw [if_neg hc]
   have hs : (mkB (c :: r)).size = r.length + 1 := by rw [mkB_size]; rfl
   have hb : by_ (mkB (c :: r)) 0 = c.toNat := by rw [by_mkB (c :: r) 0 (by simp)]; rfl
   rw [hT, hS]
   unfold numR
   rw [hp, if_neg (by decide)]
   unfold numAt
   rw [hs, hb, canon_is]
   by_cases h48 : c = 48 ∧ r ≠ []
   ·have : 1 < r.length + 1 := by have := List.length_pos_iff.2 h48.2; omega
    rw [if_pos h48, if_pos (Or.inr ⟨(eq48 c).symm ▸ h48.1, this⟩)]
    exact ⟨rfl, fun h => by cases h⟩
   ·rw [if_neg h48, if_neg (by
     rintro (h | ⟨h1, h2⟩)
     ·omega
     ·exact h48 ⟨(eq48 c) ▸ h1, fun e => by rw [e] at h2; simp at h2⟩)]
    have hn := numFrom_spec (c :: r) (c :: r).length 0 0 0 (by simp) rfl
    rw [List.drop_zero] at hn
    rw [show r.length + 1 - 0 = (c :: r).length by simp]
    refine ⟨hn.1, fun h => ?_⟩
    have := hn.2 h
    rw [show (((0 : Nat)) : Int) = 0 from rfl] at this
    simp only
    rw [this]
    omega
/-- The reference's number against the one that is held. -/
def near (v x : Int) : Prop := (v = x ∧ -2147483648 < x ∧ x < 2147483648) ∨ (2147483648 ≤ v ∧ x = 2147483648) ∨ (v ≤ -2147483648 ∧ x = -2147483648)
theorem near_pos (n : Nat) (v : Int) (h : v = n ∨ (2147483648 ≤ v ∧ 2147483648 ≤ n)) : near v ((min n 2147483648 : Nat) : Int) := by
 unfold near
 omega
theorem near_neg (n : Nat) (v : Int) (h : v = -(n : Int) ∨ (v ≤ -2147483648 ∧ 2147483648 ≤ n)) : near v (-((min n 2147483648 : Nat) : Int)) := by
 unfold near
 omega
theorem value_is (l : List UInt8) (hl : l.length ≤ 281474976710656) (h : tensB l = true) : ∃ v, depotref03_Value.f (mkB l) = some v ∧ near v (satN l) := by
 have p10 : pw 10 = 10000000000 := rfl
 have hsz := mkB_size l
 have hdl : (mkB l).data.toList = l := mkB_list l
 cases l with
 | nil => simp [tensB] at h
 | cons c r =>
  unfold depotref03_Value.f
  rw [if_pos (by omega)]
  by_cases hc : c = 45
  ·subst hc
   have hT : (decide (r ≠ [48]) && canon r) = true := by
    have : tensB (45 :: r) = (decide (r ≠ [48]) && canon r) := by unfold tensB; simp
    rw [← this]; exact h
   rw [Bool.and_eq_true, decide_eq_true_eq] at hT
   have hS : satN (45 :: r) = -((min (val_ 0 r) 2147483648 : Nat) : Int) := rfl
   have hb : bt (mkB (45 :: r)) 0 = 45 := bt_head _ hdl
   rw [hS]
   by_cases hlen : r.length ≤ 10
   ·have hv := val_lt r (canon_digits hT.2) 0
    have hpm := pw_mono 10 hlen
    rw [if_neg (show ¬ longW _ by
     rintro (h | ⟨h, h2⟩)
     ·rw [hsz, List.length_cons] at h; omega
     ·exact h2 hb), hdl, atoi_neg hT.2 (by omega)]
    exact ⟨_, rfl, near_neg _ _ (Or.inl rfl)⟩
   ·rw [if_pos (show longW _ from Or.inl (by rw [hsz, List.length_cons]; omega)), if_pos hb]
    have hp := canon_pos hT.2 hT.1
    have hpm : pw 10 ≤ pw (r.length - 1) := pw_mono _ (by omega)
    exact ⟨_, rfl, near_neg _ _ (Or.inr ⟨by decide, by omega⟩)⟩
  ·have hT : canon (c :: r) = true := by
    have : tensB (c :: r) = canon (c :: r) := by
     show (if c = 45 then _ else canon (c :: r)) = _
     rw [if_neg hc]
    rw [← this]; exact h
   have hS : satN (c :: r) = ((min (val_ 0 (c :: r)) 2147483648 : Nat) : Int) := by
    show (if c = 45 then _ else _) = _
    rw [if_neg hc]
   have hb : bt (mkB (c :: r)) 0 ≠ 45 := by
    rw [bt_head _ hdl]
    have := canon_head hT
    omega
   rw [hS]
   by_cases hlen : (c :: r).length ≤ 10
   ·have hv := val_lt (c :: r) (canon_digits hT) 0
    have hpm := pw_mono 10 hlen
    rw [if_neg (show ¬ longW _ by
     rintro (h | ⟨h, h2⟩)
     ·rw [hsz] at h; omega
     ·rw [hsz] at h; omega), hdl, atoi_pos hT (by omega)]
    exact ⟨_, rfl, near_pos _ _ (Or.inl rfl)⟩
   ·rw [if_pos (show longW _ from Or.inr ⟨by rw [hsz]; omega, hb⟩), if_neg hb]
    have hp := canon_pos hT (by intro e; rw [e] at hlen; simp at hlen)
    have hpm : pw 10 ≤ pw ((c :: r).length - 1) := pw_mono _ (by omega)
    exact ⟨_, rfl, near_pos _ _ (Or.inr ⟨by decide, by omega⟩)⟩
end Go.Proofs.YtlhajfepcggjaaaGreatDoor.U

set_option linter.unusedVariables false
set_option linter.unusedSimpArgs false
namespace Go.Proofs.YtlhajfepcggjaaaGreatDoor.U
open Go.Proofs.YtlhajfepcggjaaaGreatDoor.R
open Go.Proofs.YtlhajfepcggjaaaGreatDoor.R Go.RowKit Go.Lib Go.Proofs.YtlhajfepcggjaaaGreatDoorW.PrintWords Go.Proofs.YtlhajfepcggjaaaGreatDoorW.PrintLast Go.Proofs.YtlhajfepcggjaaaGreatDoorW.PrintMore

theorem word_tens (s : ByteArray) : (numR s).2 = tensB s.data.toList := by
 have := (num_is s.data.toList).1
 rwa [mkB_data] at this
theorem word_val (s : ByteArray) (hs : s.size ≤ 281474976710656) (h : tensB s.data.toList = true) : ∃ v, depotref03_Value.f s = some v ∧ near v (numR s).1 := by
 have hsz : s.data.toList.length = s.size := by simp
 obtain ⟨v, h1, h2⟩ := value_is s.data.toList (by omega) h
 have h3 := (num_is s.data.toList).2 h
 rw [mkB_data] at h1 h3
 exact ⟨v, h1, by rw [h3]; exact h2⟩
/-- What is answered for the words behind the head. -/
def bodyD (T : Nat) : List S84 → FSt → Int × List (List Int) × Int × Int
 | [], st => if endD st = 0 then (st.vars, st.cls, 0, 0) else (0, [], endD st, ((T + 1 : Nat) : Int))
 | w :: r, st => if (wordD st w.f0).2 = 0 then bodyD T r (wordD st w.f0).1 else (0, [], (wordD st w.f0).2, w.f1)
def toR (r : FSt × Int × Nat) : Int × List (List Int) × Int × Int := if r.2.1 = 0 then (r.1.vars, r.1.cls, 0, 0) else (0, [], r.2.1, (r.2.2 : Int))
theorem wordD_headed (st : FSt) (w : ByteArray) : (wordD st w).1.headed = st.headed := by
 unfold wordD
 split
 ·rfl
 ·split
  ·rfl
  ·split <;> rfl
theorem wordsD_headed : ∀ (ws : List ByteArray) (st : FSt), (wordsD st ws).1.headed = st.headed := by
 intro ws
 induction ws with
 | nil => intro st; rfl
 | cons w r ih =>
  intro st
  unfold wordsD
  split
  ·rw [ih, wordD_headed]
  ·exact wordD_headed st w
theorem body_words (T n : Nat) (rest : List S84) : ∀ (ws : List ByteArray) (st : FSt), bodyD T (ws.map (at_ n) ++ rest) st = if (wordsD st ws).2 = 0 then bodyD T rest (wordsD st ws).1 else (0, [], (wordsD st ws).2, (n : Int)) := by
 intro ws
 induction ws with
 | nil => intro st; rfl
 | cons w r ih =>
  intro st
  have e : bodyD T ((w :: r).map (at_ n) ++ rest) st = if (wordD st w).2 = 0 then bodyD T (r.map (at_ n) ++ rest) (wordD st w).1 else (0, [], (wordD st w).2, (n : Int)) := rfl
  have e2 : wordsD st (w :: r) = if (wordD st w).2 = 0 then wordsD (wordD st w).1 r else wordD st w := rfl
  rw [e, e2]
  by_cases h : (wordD st w).2 = 0
  ·rw [if_pos h, if_pos h, ih]
  ·rw [if_neg h, if_neg h, if_neg h]
theorem rem_is (l : List UInt8) : remB (mkB l) = hasPrefix l [99] := by
 unfold remB
 cases l with
 | nil => rfl
 | cons c r =>
  rw [bt_head (mkB (c :: r)) (mkB_list (c :: r)), mkB_size, decide_eq_true (by simp), Bool.true_and]
  have e : hasPrefix (c :: r) [99] = (99 == c) := by simp [hasPrefix, List.isPrefixOf]
  rw [e]
  by_cases hc : c = 99
  ·subst hc; rfl
  ·have h1 : (99 == c) = false := beq_eq_false_iff_ne.2 (fun h => hc h.symm)
   have h2 : ((c.toNat : Int) == 99) = false := beq_eq_false_iff_ne.2 (fun h => hc (UInt8.toNat_inj.1 (show c.toNat = (99 : UInt8).toNat by have e99 : (99 : UInt8).toNat = 99 := rfl; omega)))
   rw [h1, h2]
theorem spk_cons (l : List UInt8) (r : List (List UInt8)) (n : Nat) : spkB ((l :: r).map mkB) n = (if idleB l then [] else (wordsB (mkB l)).map (at_ (n + 1))) ++ spkB (r.map mkB) (n + 1) := by
 have e : spkB ((l :: r).map mkB) n = (if remB (mkB l) then [] else (wordsB (mkB l)).map (at_ (n + 1))) ++ spkB (r.map mkB) (n + 1) := rfl
 rw [e, rem_is]
 unfold idleB
 cases hp : hasPrefix l [99] with
 | true => rfl
 | false =>
  rw [Bool.false_or]
  cases hw : wordsB (mkB l) with
  | nil => rfl
  | cons a b => rfl
theorem lines_body : ∀ (L : List (List UInt8)) (n : Nat) (st : FSt), st.headed = true → toR (linesD L n st) = bodyD (n + L.length) (spkB (L.map mkB) n) st := by
 intro L
 induction L with
 | nil =>
  intro n st _
  have e : linesD [] n st = (st, endD st, if endD st = 0 then 0 else n + 1) := rfl
  have e2 : bodyD (n + ([] : List (List UInt8)).length) (spkB (([] : List (List UInt8)).map mkB) n) st = if endD st = 0 then (st.vars, st.cls, 0, 0) else (0, [], endD st, ((n + 1 : Nat) : Int)) := rfl
  rw [e, e2]
  unfold toR
  simp only
  by_cases h : endD st = 0
  ·rw [if_pos h, if_pos h]
  ·rw [if_neg h, if_neg h, if_neg h]
 | cons l r ih =>
  intro n st hh
  have e : linesD (l :: r) n st = if idleB l then linesD r (n + 1) st else if (lineD st (wordsB (mkB l))).2 = 0 then linesD r (n + 1) (lineD st (wordsB (mkB l))).1 else ((lineD st (wordsB (mkB l))).1, (lineD st (wordsB (mkB l))).2, n + 1) := rfl
  rw [e, spk_cons, List.length_cons, show n + (r.length + 1) = n + 1 + r.length by omega]
  cases hi : idleB l with
  | true => rw [if_pos rfl, if_pos rfl, List.nil_append]; exact ih (n + 1) st hh
  | false =>
   have hl : lineD st (wordsB (mkB l)) = wordsD st (wordsB (mkB l)) := by unfold lineD; rw [if_pos hh]
   simp only [Bool.false_eq_true, if_false]
   rw [hl, body_words]
   by_cases h : (wordsD st (wordsB (mkB l))).2 = 0
   ·rw [if_pos h, if_pos h]
    exact ih (n + 1) _ (by rw [wordsD_headed]; exact hh)
   ·rw [if_neg h, if_neg h]
    unfold toR
    simp only
    rw [if_neg h]
theorem spk_gt : ∀ (X : List ByteArray) (n : Nat), ∀ x ∈ spkB X n, (n : Int) < x.f1 := by
 intro X
 induction X with
 | nil => intro n x h; simp [spkB] at h
 | cons s r ih =>
  intro n x h
  unfold spkB at h
  rcases List.mem_append.1 h with h | h
  ·split at h
   ·simp at h
   ·obtain ⟨w, _, rfl⟩ := List.mem_map.1 h
    show (n : Int) < ((n + 1 : Nat) : Int)
    omega
  ·have := ih (n + 1) x h
   omega
theorem lines_first : ∀ (L : List (List UInt8)) (n : Nat), (spkB (L.map mkB) n = [] ∧ toR (linesD L n fst0) = (0, [], 30, ((n + L.length + 1 : Nat) : Int))) ∨
  ∃ (ws : List ByteArray) (m : Nat) (rest : List S84), ws ≠ [] ∧ spkB (L.map mkB) n = ws.map (at_ m) ++ rest ∧ (∀ x ∈ rest, x.f1 ≠ (m : Int)) ∧
   toR (linesD L n fst0) = if (headR ws).2.2 = true then bodyD (n + L.length) rest ⟨true, (headR ws).2.1, (headR ws).1, [], []⟩ else (0, [], 30, (m : Int)) := by
 intro L
 induction L with
 | nil => intro n; exact Or.inl ⟨rfl, rfl⟩
 | cons l r ih =>
  intro n
  have e : linesD (l :: r) n fst0 = if idleB l then linesD r (n + 1) fst0 else if (lineD fst0 (wordsB (mkB l))).2 = 0 then linesD r (n + 1) (lineD fst0 (wordsB (mkB l))).1 else ((lineD fst0 (wordsB (mkB l))).1, (lineD fst0 (wordsB (mkB l))).2, n + 1) := rfl
  rw [e, spk_cons, List.length_cons, show n + (r.length + 1) = n + 1 + r.length by omega]
  cases hi : idleB l with
  | true => rw [if_pos rfl, if_pos rfl, List.nil_append]; exact ih (n + 1)
  | false =>
   refine Or.inr ⟨wordsB (mkB l), n + 1, spkB (r.map mkB) (n + 1), ?_, by rw [if_neg (by decide)], fun x hx => ?_, ?_⟩
   ·intro h
    unfold idleB at hi
    rw [h] at hi
    simp at hi
   ·have := spk_gt _ (n + 1) x hx
    omega
   ·have hl : lineD fst0 (wordsB (mkB l)) = (⟨(headR (wordsB (mkB l))).2.2, (headR (wordsB (mkB l))).2.1, (headR (wordsB (mkB l))).1, [], []⟩, if (headR (wordsB (mkB l))).2.2 then 0 else 30) := rfl
    rw [if_neg (by decide), hl]
    cases hk : (headR (wordsB (mkB l))).2.2 with
    | true =>
     simp only [if_true]
     exact lines_body r (n + 1) _ rfl
    | false =>
     simp only
     rfl
end Go.Proofs.YtlhajfepcggjaaaGreatDoor.U

set_option linter.unusedVariables false
set_option linter.unusedSimpArgs false
namespace Go.Proofs.YtlhajfepcggjaaaGreatDoor.U
open Go.Proofs.YtlhajfepcggjaaaGreatDoor.R
open Go.Proofs.YtlhajfepcggjaaaGreatDoor.R Go.RowKit Go.Lib Go.Proofs.YtlhajfepcggjaaaGreatDoorW.PrintWords Go.Proofs.YtlhajfepcggjaaaGreatDoorW.PrintLast Go.Proofs.YtlhajfepcggjaaaGreatDoorW.PrintMore

theorem read_l0 (X : List ByteArray) (hX : X.length ≤ 4398046511104) (l : List S84) (hl : l.length ≤ 4398046511104) (h3 : 3 < l.length) (C V : Int) (hV0 : 0 ≤ V) (hV1 : V ≤ 1048576) (hC : depotref03_Value.f ((rd_T84 l 3).f0) = some C) (M : Nat) (hM : M ≤ 1099511627776) (hs : ∀ w ∈ l, w.f0.size ≤ M) (d : Nat) :
  ∀ (k i : Nat) (c : List Int) (cls : List (List Int)), i ≤ l.length → l.length - i = d → 2 * d + M + 5 < k → c.length ≤ i → cls.length ≤ i →
  depotref03_Read.l0 k X l c (i : Int) V cls = some (bodyD X.length (l.drop i) ⟨true, C, V, cls, c⟩) := by
 induction d with
 | zero =>
  intro k i c cls hi hd hk hc hcl
  obtain ⟨k, rfl⟩ := succ_ofr hk
  rw [depotref03_Read.l0, if_neg (by omega), List.drop_of_length_le (by omega), hC, w64r (by omega) (by omega)]
  have e : bodyD X.length [] ⟨true, C, V, cls, c⟩ = if endD ⟨true, C, V, cls, c⟩ = 0 then (V, cls, 0, 0) else (0, [], endD ⟨true, C, V, cls, c⟩, ((X.length + 1 : Nat) : Int)) := rfl
  rw [e]
  by_cases h1 : 0 < c.length
  ·have e2 : endD ⟨true, C, V, cls, c⟩ = 33 := by unfold endD; rw [if_neg (show ¬ (true = false) by decide), if_pos h1]
   rw [if_pos (show (c.length : Int) > 0 by omega), e2, if_neg (by decide)]
   rfl
  ·rw [if_neg (show ¬ (c.length : Int) > 0 by omega), if_pos (by omega)]
   simp only [Option.bind_some]
   by_cases h2 : (cls.length : Int) = C
   ·have e2 : endD ⟨true, C, V, cls, c⟩ = 0 := by unfold endD; rw [if_neg (show ¬ (true = false) by decide), if_neg h1, if_neg (by simpa using h2)]
    rw [if_pos h2, e2, if_pos rfl]
   ·have e2 : endD ⟨true, C, V, cls, c⟩ = 34 := by unfold endD; rw [if_neg (show ¬ (true = false) by decide), if_neg h1, if_pos (by simpa using h2)]
    rw [if_neg h2, e2, if_neg (by decide)]
    rfl
 | succ d ih =>
  intro k i c cls hi hd hk hc hcl
  obtain ⟨k, rfl⟩ := succ_ofr hk
  obtain ⟨k, rfl⟩ := succ_ofr (show 0 < k by omega)
  have hlt : i < l.length := by omega
  have hsz := hs l[i] (List.getElem_mem hlt)
  have hdr := List.drop_eq_getElem_cons hlt
  rw [depotref03_Read.l0, if_pos (by omega), if_pos (by omega), rdT_nat hlt, tens_is _ (by omega) (k + 1) (by omega), hdr]
  simp only [Option.bind_some]
  have e : ∀ st : FSt, bodyD X.length (l[i] :: l.drop (i + 1)) st = if (wordD st (l[i]).f0).2 = 0 then bodyD X.length (l.drop (i + 1)) (wordD st (l[i]).f0).1 else (0, [], (wordD st (l[i]).f0).2, (l[i]).f1) := fun _ => rfl
  rw [e]
  have hT := word_tens (l[i]).f0
  cases ht : tensB (l[i]).f0.data.toList with
  | false =>
   rw [ht] at hT
   have e2 : wordD ⟨true, C, V, cls, c⟩ (l[i]).f0 = (⟨true, C, V, cls, c⟩, 31) := by unfold wordD; rw [if_pos hT]
   rw [if_neg (by decide), e2]
   rfl
  | true =>
   rw [ht] at hT
   obtain ⟨v, hv, hn⟩ := word_val (l[i]).f0 (by omega) ht
   rw [if_pos rfl, hv]
   simp only [Option.bind_some]
   generalize hx : (numR (l[i]).f0).1 = x at hn
   have hT' : ¬ (numR (l[i]).f0).2 = false := by rw [hT]; decide
   unfold near at hn
   rw [w64r (x := -V) (by omega) (by omega)]
   have bad : (v > V ∨ v < -V) → wordD ⟨true, C, V, cls, c⟩ (l[i]).f0 = (⟨true, C, V, cls, c⟩, 32) := by
    intro hb
    unfold wordD
    rw [if_neg hT', hx, if_neg (by omega), if_neg]
    unfold litV
    rw [Bool.and_eq_true, decide_eq_true_eq, decide_eq_true_eq]
    simp only
    omega
   have jbad : depotref03_Read.j1 (k + 1) X l c (i : Int) v true V cls = some (0, [], 32, (l[i]).f1) := by
    rw [depotref03_Read.j1, if_pos rfl, if_pos (by omega), if_pos (by omega), rdT_nat hlt]
   by_cases h1 : v > V
   ·rw [if_pos h1, jbad, bad (Or.inl h1)]
    rfl
   ·rw [if_neg h1]
    by_cases h2 : v < -V
    ·rw [decide_eq_true h2, jbad, bad (Or.inr h2)]
     rfl
    ·rw [decide_eq_false h2, depotref03_Read.j1, if_neg (by decide), w64r (by omega) (by omega)]
     have hvx : v = x := by omega
     by_cases h0 : v = 0
     ·have e2 : wordD ⟨true, C, V, cls, c⟩ (l[i]).f0 = (⟨true, C, V, cls ++ [c], []⟩, 0) := by unfold wordD; rw [if_neg hT', hx, if_pos (by omega)]
      rw [if_pos h0, if_pos (by omega), e2, if_pos rfl]
      exact ih k (i + 1) [] (cls ++ [c]) (by omega) (by omega) (by omega) (Nat.zero_le _) (by rw [List.length_append, List.length_singleton]; omega)
     ·have e2 : wordD ⟨true, C, V, cls, c⟩ (l[i]).f0 = (⟨true, C, V, cls, c ++ [v]⟩, 0) := by
       unfold wordD
       rw [if_neg hT', hx, if_neg (by omega), if_pos]
       ·rw [hvx]
       ·unfold litV
        rw [Bool.and_eq_true, decide_eq_true_eq, decide_eq_true_eq]
        simp only
        omega
      rw [if_neg h0, if_pos (by omega), e2, if_pos rfl]
      exact ih k (i + 1) (c ++ [v]) cls (by omega) (by omega) (by omega) (by rw [List.length_append, List.length_singleton]; omega) (by omega)
theorem headR_other (ws : List ByteArray) (h : ws.length ≠ 4) : headR ws = (0, 0, false) := by
 match ws, h with
 | [], _ => rfl
 | [_], _ => rfl
 | [_, _], _ => rfl
 | [_, _, _], _ => rfl
 | [_, _, _, _], h => exact absurd rfl h
 | _ :: _ :: _ :: _ :: _ :: _, _ => rfl
theorem head_is' (ws : List ByteArray) (hne : ws ≠ []) (n : Nat) (rest : List S84) (hB : ∀ x ∈ rest, x.f1 ≠ (n : Int)) (M : Nat) (hM : M ≤ 1099511627776) (hs : ∀ w ∈ ws, w.size ≤ M) (hl : (ws.map (at_ n) ++ rest).length ≤ 4398046511104) (k : Nat) (hk : ws.length + M + 4 < k) :
  depotref03_head.f k (ws.map (at_ n) ++ rest) = some (headR ws).2.2 ∧
   ((headR ws).2.2 = true → ws.length = 4 ∧ depotref03_Value.f ((rd_T84 (ws.map (at_ n) ++ rest) 2).f0) = some (headR ws).1 ∧ depotref03_Value.f ((rd_T84 (ws.map (at_ n) ++ rest) 3).f0) = some (headR ws).2.1 ∧ 0 ≤ (headR ws).1 ∧ (headR ws).1 ≤ 1048576) := by
 have hA : ∀ x ∈ ws.map (at_ n), x.f1 = (n : Int) := fun x hx => by obtain ⟨w, _, rfl⟩ := List.mem_map.1 hx; rfl
 have hpos := List.length_pos_iff.2 hne
 obtain ⟨k, rfl⟩ := succ_ofr hk
 have hh : depotref03_heading.f (k + 1) (ws.map (at_ n) ++ rest) = some (ws.length : Int) := by
  unfold depotref03_heading.f
  have := heading_l0 (ws.map (at_ n)) rest n hA hB (by rw [List.length_map]; exact hpos) hl (ws.map (at_ n)).length (k + 1) 0 (by omega) (by omega) (by rw [List.length_map]; omega)
  rw [List.length_map] at this
  exact this
 unfold depotref03_head.f
 rw [hh]
 simp only [Option.bind_some]
 by_cases h4 : ws.length = 4
 ·match ws, h4, hs, hl, hk with
  | [a, b, c, d], _, hs, hl, hk =>
   rw [if_pos (show (([a, b, c, d].length : Nat) : Int) = 4 from rfl)]
   have hl4 : ((([a, b, c, d].map (at_ n) ++ rest).length : Nat) : Int) = rest.length + 4 := by simp; omega
   have hp0 : (0 < ((([a, b, c, d].map (at_ n) ++ rest).length : Nat) : Int)) = True := eq_true (by omega)
   have hp1 : (1 < ((([a, b, c, d].map (at_ n) ++ rest).length : Nat) : Int)) = True := eq_true (by omega)
   have hp2 : (2 < ((([a, b, c, d].map (at_ n) ++ rest).length : Nat) : Int)) = True := eq_true (by omega)
   have hp3 : (3 < ((([a, b, c, d].map (at_ n) ++ rest).length : Nat) : Int)) = True := eq_true (by omega)
   have r0 : (rd_T84 ([a, b, c, d].map (at_ n) ++ rest) 0).f0 = a := rfl
   have r1 : (rd_T84 ([a, b, c, d].map (at_ n) ++ rest) 1).f0 = b := rfl
   have r2 : (rd_T84 ([a, b, c, d].map (at_ n) ++ rest) 2).f0 = c := rfl
   have r3 : (rd_T84 ([a, b, c, d].map (at_ n) ++ rest) 3).f0 = d := rfl
   have sc := hs c (by simp)
   have sd := hs d (by simp)
   have jt : depotref03_head.j0 (k + 1) ([a, b, c, d].map (at_ n) ++ rest) true = some false := by rw [depotref03_head.j0, if_pos rfl]
   have j0 : depotref03_head.j0 (k + 1) ([a, b, c, d].map (at_ n) ++ rest) false = (depotref03_Value.f c).bind fun t229 => (depotref03_Value.f d).bind fun t231 => (if t229 ≥ 0 then (if t229 ≤ 1048576 then (if t231 ≥ 0 then (some (decide (t231 ≤ 2147483647))) else (some false)) else (some false)) else (some false)) := by
    rw [depotref03_head.j0, if_neg (by decide)]
    simp only [hp2, hp3, if_true, r2, r3]
   simp only [hp0, hp1, hp2, hp3, if_true, r0, r1, r2, r3]
   rw [tens_is c (by omega) _ (by omega), tens_is d (by omega) _ (by omega), jt]
   simp only [Option.bind_some]
   have eH : headR [a, b, c, d] = if a.toList = [112] ∧ b.toList = [99, 110, 102] then headN (numR c) (numR d) else (0, 0, false) := rfl
   rw [eH]
   by_cases ha : a.toList = [112]
   ·by_cases hb : b.toList = [99, 110, 102]
    ·rw [if_pos ha, if_pos hb, if_pos (show a.toList = [112] ∧ b.toList = [99, 110, 102] from ⟨ha, hb⟩)]
     have hTc := word_tens c
     have hTd := word_tens d
     unfold headN
     try simp only
     cases tc : tensB c.data.toList with
     | false =>
      rw [tc] at hTc
      rw [hTc, if_neg (by decide)]
      simp
     | true =>
      rw [tc] at hTc
      rw [if_pos rfl, hTc]
      cases td : tensB d.data.toList with
      | false =>
       rw [td] at hTd
       rw [hTd, show (!false) = true from rfl, jt]
       simp
      | true =>
       rw [td] at hTd
       obtain ⟨v, hv, hn⟩ := word_val c (by omega) tc
       obtain ⟨u, hu, hm⟩ := word_val d (by omega) td
       rw [hTd, show (!true) = false from rfl, j0, hv, hu]
       simp only [Option.bind_some]
       generalize (numR c).1 = x at hn
       generalize (numR d).1 = y at hm
       unfold near at hn hm
       simp only [Bool.true_and, Bool.and_eq_true, decide_eq_true_eq]
       refine ⟨?_, fun hq => ⟨rfl, congrArg some (by omega), congrArg some (by omega), by omega, by omega⟩⟩
       by_cases q1 : 0 ≤ x
       ·rw [if_pos (by omega), decide_eq_true q1, Bool.true_and]
        by_cases q2 : x ≤ 1048576
        ·rw [if_pos (by omega), decide_eq_true q2, Bool.true_and]
         by_cases q3 : 0 ≤ y
         ·rw [if_pos (by omega), decide_eq_true q3, Bool.true_and]
          exact congrArg some (decide_eq_decide.2 (by omega))
         ·rw [if_neg (by omega), decide_eq_false q3]; rfl
        ·rw [if_neg (by omega), decide_eq_false q2]; rfl
       ·rw [if_neg (by omega), decide_eq_false q1]; rfl
    ·rw [if_pos ha, if_neg hb, if_neg (show ¬ (a.toList = [112] ∧ b.toList = [99, 110, 102]) from fun h => hb h.2)]
     exact ⟨rfl, fun h => by cases h⟩
   ·rw [if_neg ha, if_neg (show ¬ (a.toList = [112] ∧ b.toList = [99, 110, 102]) from fun h => ha h.1)]
    exact ⟨rfl, fun h => by cases h⟩
 ·rw [if_neg (by omega), headR_other ws h4, depotref03_head.j0, if_pos rfl]
  exact ⟨rfl, fun h => by cases h⟩
end Go.Proofs.YtlhajfepcggjaaaGreatDoor.U

set_option linter.unusedVariables false
set_option linter.unusedSimpArgs false
namespace Go.Proofs.YtlhajfepcggjaaaGreatDoor.U
open Go.Proofs.YtlhajfepcggjaaaGreatDoor.R
open Go.Proofs.YtlhajfepcggjaaaGreatDoor.R Go.RowKit Go.Lib Go.Proofs.YtlhajfepcggjaaaGreatDoorW.PrintWords Go.Proofs.YtlhajfepcggjaaaGreatDoorW.PrintLast Go.Proofs.YtlhajfepcggjaaaGreatDoorW.PrintMore

def massA : List (List UInt8) → Nat
 | [] => 0
 | l :: r => l.length + 1 + massA r
theorem massA_len : ∀ L : List (List UInt8), L.length ≤ massA L := by
 intro L
 induction L with
 | nil => exact Nat.le_refl _
 | cons l r ih => show r.length + 1 ≤ l.length + 1 + massA r; omega
theorem massA_mem : ∀ (L : List (List UInt8)), ∀ l ∈ L, l.length + 1 ≤ massA L := by
 intro L
 induction L with
 | nil => intro l h; cases h
 | cons a r ih =>
  intro l h
  show l.length + 1 ≤ a.length + 1 + massA r
  rcases List.mem_cons.1 h with rfl | h
  ·omega
  ·have := ih l h; omega
theorem massA_spk : ∀ (L : List (List UInt8)) (n : Nat), (spkB (L.map mkB) n).length ≤ massA L := by
 intro L
 induction L with
 | nil => intro n; exact Nat.le_refl _
 | cons l r ih =>
  intro n
  rw [spk_cons, List.length_append]
  have h1 := ih (n + 1)
  have h2 := wordsB_length (mkB l)
  rw [mkB_size] at h2
  show _ ≤ l.length + 1 + massA r
  split
  ·rw [List.length_nil]; omega
  ·rw [List.length_map]; omega
theorem cut_mass : ∀ l : List UInt8, (cut l [10]).1.length + (cut l [10]).2.1.length + (if (cut l [10]).2.2 then 1 else 0) = l.length := by
 intro l
 induction l with
 | nil => rw [cut_nil]; rfl
 | cons b l ih =>
  rw [cut_cons]
  by_cases hb : b = 10
  ·rw [if_pos hb]; simp
  ·rw [if_neg hb]
   simp only [List.length_cons]
   omega
theorem linesA_mass (d : Nat) : ∀ l : List UInt8, l.length ≤ d → massA (linesA l) ≤ l.length + 1 := by
 induction d with
 | zero =>
  intro l h
  obtain rfl : l = [] := List.length_eq_zero_iff.1 (by omega)
  rw [linesA_nil]
  exact Nat.zero_le _
 | succ d ih =>
  intro l h
  by_cases hl : l = []
  ·rw [hl, linesA_nil]; exact Nat.zero_le _
  ·have hc := cut_mass l
   have hlt := cut_len l hl
   rw [linesA_cons l hl]
   show (cut l [10]).1.length + 1 + massA (linesA (cut l [10]).2.1) ≤ _
   cases hf : (cut l [10]).2.2 with
   | true =>
    rw [hf, if_pos rfl] at hc
    have := ih _ (show (cut l [10]).2.1.length ≤ d by omega)
    omega
   | false =>
    have ho := cut_off l hf
    rw [ho.2, linesA_nil, ho.1]
    exact Nat.le_refl _
theorem read_is (s : ByteArray) (hs : s.size ≤ 1048576) : ∃ K, ∀ k, K < k → depotref03_Read.f k s = some (toR (readD s)) := by
 obtain ⟨M, hM0⟩ : ∃ M : Nat, M = 1048577 := ⟨_, rfl⟩
 have hsz : s.data.toList.length = s.size := by simp
 have hm := linesA_mass _ s.data.toList (Nat.le_refl _)
 generalize hL : linesA s.data.toList = L at hm
 have hLl := massA_len L
 have hsp := massA_spk L 0
 have hX : (L.map mkB).length = L.length := List.length_map _
 have hXs : ∀ x ∈ L.map mkB, x.size ≤ M := fun x hx => by
  obtain ⟨l, hl, rfl⟩ := List.mem_map.1 hx
  have := massA_mem L l hl
  rw [mkB_size]
  omega
 have hf0 : ∀ w ∈ spkB (L.map mkB) 0, w.f0.size ≤ M := by
  have gen : ∀ (X : List ByteArray) (n : Nat), (∀ x ∈ X, x.size ≤ M) → ∀ w ∈ spkB X n, w.f0.size ≤ M := by
   intro X
   induction X with
   | nil => intro n _ w h; simp [spkB] at h
   | cons a r ih =>
    intro n hx w h
    unfold spkB at h
    rcases List.mem_append.1 h with h | h
    ·split at h
     ·simp at h
     ·obtain ⟨y, hy, rfl⟩ := List.mem_map.1 h
      have h1 := wordsB_size a y hy
      have h2 := hx a List.mem_cons_self
      show y.size ≤ _
      omega
    ·exact ih (n + 1) (fun x hx' => hx x (List.mem_cons_of_mem _ hx')) w h
  exact gen _ 0 hXs
 refine ⟨(L.map mkB).length * (M + 4) + 20000000, fun k hk => ?_⟩
 unfold depotref03_Read.f
 have hlines : depotref03_Lines.f k s = some (L.map mkB) := by
  have := lines_is s (by omega) k (by omega)
  rw [this, ← hL]
  show some ((linesL s.size s.data.toList).map mk_) = some ((linesL s.data.toList.length s.data.toList).map mkB)
  rw [hsz]
  rfl
 rw [hlines]
 simp only [Option.bind_some]
 rw [spoken_is (L.map mkB) M (by omega) (by omega) hXs (by omega) k (by omega)]
 simp only [Option.bind_some]
 have hrd : readD s = linesD L 0 fst0 := by unfold readD; rw [hL]
 rw [hrd]
 rcases lines_first L 0 with ⟨h1, h2⟩ | ⟨ws, m, rest, hne, h1, hB, h2⟩
 ·rw [h1, h2, if_pos (show ((([] : List S84).length : Nat) : Int) = 0 from rfl), w64r (by omega) (by omega), hX]
  congr 5
  omega
 ·rw [h1] at hsp hf0 ⊢
  rw [h2]
  have hws : ∀ w ∈ ws, w.size ≤ M := fun w hw => hf0 (at_ m w) (List.mem_append_left _ (List.mem_map.2 ⟨w, hw, rfl⟩))
  have hpos := List.length_pos_iff.2 hne
  have hlen : (ws.map (at_ m) ++ rest).length = ws.length + rest.length := by rw [List.length_append, List.length_map]
  obtain ⟨g1, g2⟩ := head_is' ws hne m rest hB M (by omega) hws (by omega) k (by omega)
  rw [if_neg (by omega), g1]
  simp only [Option.bind_some]
  cases hk2 : (headR ws).2.2 with
  | true =>
   obtain ⟨q4, q2, q3, v0, v1⟩ := g2 hk2
   rw [if_pos rfl, if_pos (by omega), q2, if_pos rfl]
   simp only [Option.bind_some]
   have hr := read_l0 (L.map mkB) (by omega) (ws.map (at_ m) ++ rest) (by omega) (by omega) (headR ws).2.1 (headR ws).1 v0 v1 q3 M (by omega) hf0 ((ws.map (at_ m) ++ rest).length - 4) k 4 [] [] (by omega) rfl (by omega) (by simp) (by simp)
   have hdrop : (ws.map (at_ m) ++ rest).drop 4 = rest := by
    rw [List.drop_append_of_le_length (by rw [List.length_map]; omega), List.drop_of_length_le (by rw [List.length_map]; omega), List.nil_append]
   rw [hdrop, hX] at hr
   rw [show 0 + L.length = L.length by omega]
   exact hr
  | false =>
   have hf1 : (rd_T84 (ws.map (at_ m) ++ rest) 0).f1 = (m : Int) := by
    match ws, hne with
    | a :: r, _ => rfl
   rw [if_neg (show ¬ (false = true) by decide), if_pos (by omega), hf1]
   rfl
end Go.Proofs.YtlhajfepcggjaaaGreatDoor.U
