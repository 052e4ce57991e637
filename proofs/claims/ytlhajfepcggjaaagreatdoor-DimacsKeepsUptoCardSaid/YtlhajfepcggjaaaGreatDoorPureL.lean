/- strings.FieldsFunc at blanks, byte by byte: the pieces between bytes 32 and 9. No conditions. The lines of a text, cut one by one (strings.Cut at a line feed). No conditions. strings.Cut at a line feed, byte by byte. No conditions. The words of a line, byte by byte, as lists of bytes. No conditions. strings.Split at a line feed: the pieces, byte by byte; without an empty last one they are the lines. No conditions. Numbers in tens: strconv.Itoa and Atoi are each other's way back, on the texts that are written shortest. No conditions. -/
import Derived.Lib.FieldsP
import Derived.Lib.IndexMore
import Derived.Lib.Split
import Derived.Lib.SplitLaws
import Derived.Lib.AtoiAll
import Derived.Lib.ItoaMem
namespace Go.Proofs.YtlhajfepcggjaaaGreatDoor.R
open Go.Lib

def blankR (r : Nat) : Bool := r == 32 || r == 9
/-- The byte at a place. -/
def by_ (s : ByteArray) (i : Nat) : Nat := (s.get! i).toNat
/-- The spans, byte by byte. -/
def spansB (s : ByteArray) : Nat → Nat → Option Nat → List (Nat × Nat) → List (Nat × Nat) × Option Nat
 | 0, _, st, acc => (acc, st)
 | d + 1, pos, st, acc =>
  if blankR (by_ s pos) then
   (match st with
    | some a => spansB s d (pos + 1) none (acc ++ [(a, pos)])
    | none => spansB s d (pos + 1) none acc)
  else
   (match st with
    | some a => spansB s d (pos + 1) (some a) acc
    | none => spansB s d (pos + 1) (some pos) acc)

theorem spansB_blank {s : ByteArray} {pos : Nat} (h : blankR (by_ s pos) = true) (d : Nat) (st : Option Nat) (acc : List (Nat × Nat)) : spansB s (d + 1) pos st acc = spansB s d (pos + 1) none (match st with | some a => acc ++ [(a, pos)] | none => acc) := by
 cases st <;> simp [spansB, h]
theorem spansB_word {s : ByteArray} {pos : Nat} (h : blankR (by_ s pos) = false) (d : Nat) (st : Option Nat) (acc : List (Nat × Nat)) : spansB s (d + 1) pos st acc = spansB s d (pos + 1) (some (match st with | some a => a | none => pos)) acc := by
 cases st <;> simp [spansB, h]

theorem decode_parts (s : ByteArray) (i : Nat) (hi : i < s.size) :
  (by_ s i < 128 ∧ Utf8.decode s i = (by_ s i, 1)) ∨ (128 ≤ by_ s i ∧ 128 ≤ (Utf8.decode s i).1 ∧ ∃ n, (Utf8.decode s i).2 = n + 1 ∧ i + n < s.size ∧ ∀ k, k ≤ n → 128 ≤ by_ s (i + k)) := by
 by_cases h0 : by_ s i < 128
 ·refine Or.inl ⟨h0, ?_⟩
  unfold by_ at h0 ⊢
  unfold Utf8.decode
  simp only [Nat.add_zero]
  rw [if_pos h0]
 ·refine Or.inr ⟨by omega, ?_⟩
  have b0 : ¬ (s.get! i).toNat < 128 := h0
  unfold Utf8.decode
  simp only [Nat.add_zero]
  rw [if_neg b0]
  have one : 128 ≤ Utf8.runeError ∧ ∃ n, 1 = n + 1 ∧ i + n < s.size ∧ ∀ k, k ≤ n → 128 ≤ by_ s (i + k) := ⟨by decide, 0, rfl, hi, fun k hk => by
   obtain rfl : k = 0 := by omega
   rw [Nat.add_zero]; unfold by_; omega⟩
  split
  ·rename_i h
   simp only [Bool.and_eq_true, beq_iff_eq, decide_eq_true_eq] at h
   obtain ⟨_, h1, h2⟩ := h
   split
   ·rename_i h3
    refine ⟨h3, 1, rfl, h1, fun k hk => ?_⟩
    rcases Nat.lt_or_ge k 1 with hk1 | hk1
    ·obtain rfl : k = 0 := by omega
     rw [Nat.add_zero]; unfold by_; omega
    ·obtain rfl : k = 1 := by omega
     unfold by_; omega
   ·exact one
  ·split
   ·rename_i h
    simp only [Bool.and_eq_true, beq_iff_eq, decide_eq_true_eq] at h
    obtain ⟨⟨_, h1, h2⟩, h3, h4⟩ := h
    split
    ·rename_i h5
     simp only [Bool.and_eq_true, decide_eq_true_eq] at h5
     refine ⟨Nat.le_trans (by decide) h5.1, 2, rfl, h3, fun k hk => ?_⟩
     rcases (by omega : k = 0 ∨ k = 1 ∨ k = 2) with rfl | rfl | rfl
     ·rw [Nat.add_zero]; unfold by_; omega
     ·unfold by_; omega
     ·unfold by_; omega
    ·exact one
   ·split
    ·rename_i h
     simp only [Bool.and_eq_true, beq_iff_eq, decide_eq_true_eq] at h
     obtain ⟨⟨⟨_, h1, h2⟩, h3, h4⟩, h5, h6⟩ := h
     split
     ·rename_i h7
      simp only [Bool.and_eq_true, decide_eq_true_eq] at h7
      refine ⟨Nat.le_trans (by decide) h7.1, 3, rfl, h5, fun k hk => ?_⟩
      rcases (by omega : k = 0 ∨ k = 1 ∨ k = 2 ∨ k = 3) with rfl | rfl | rfl | rfl
      ·rw [Nat.add_zero]; unfold by_; omega
      ·unfold by_; omega
      ·unfold by_; omega
      ·unfold by_; omega
     ·exact one
    ·exact one

theorem blank_high {r : Nat} (h : 128 ≤ r) : blankR r = false := by
 unfold blankR
 rw [Bool.or_eq_false_iff]
 exact ⟨beq_eq_false_iff_ne.2 (by omega), beq_eq_false_iff_ne.2 (by omega)⟩
/-- A run of high bytes, a piece being open. -/
theorem spansB_run (s : ByteArray) (a : Nat) (acc : List (Nat × Nat)) (n : Nat) : ∀ (d pos : Nat), (∀ k, k < n → 128 ≤ by_ s (pos + k)) → spansB s (d + n) pos (some a) acc = spansB s d (pos + n) (some a) acc := by
 induction n with
 | zero => intro d pos _; rfl
 | succ n ih =>
  intro d pos h
  have h0 := h 0 (by omega)
  rw [Nat.add_zero] at h0
  rw [← Nat.add_assoc, spansB_word (blank_high h0)]
  rw [ih d (pos + 1) (fun k hk => by have := h (k + 1) (by omega); rwa [Nat.add_assoc, Nat.add_comm 1 k])]
  congr 1
  omega

theorem spans_eq (s : ByteArray) (d : Nat) : ∀ (f pos : Nat) (st : Option Nat) (acc : List (Nat × Nat)), s.size - pos = d → d ≤ f → spansFromP blankR s f pos st acc = spansB s d pos st acc := by
 induction d using Nat.strongRecOn with
 | _ d ih =>
  intro f pos st acc hd hf
  cases f with
  | zero =>
   obtain rfl : d = 0 := by omega
   rfl
  | succ f =>
   unfold spansFromP
   by_cases hp : pos < s.size
   ·rw [if_pos hp]
    obtain ⟨d', rfl⟩ : ∃ d', d = d' + 1 := ⟨d - 1, by omega⟩
    rcases decode_parts s pos hp with ⟨h0, h1⟩ | ⟨h0, h1, n, h2, h3, h4⟩
    ·rw [h1]
     have e : ∀ st acc, spansFromP blankR s f (pos + 1) st acc = spansB s d' (pos + 1) st acc := fun st acc => ih d' (by omega) f (pos + 1) st acc (by omega) (by omega)
     simp only [e]
     cases hb : blankR (by_ s pos) with
     | true => rw [spansB_blank hb]; cases st <;> simp
     | false => rw [spansB_word hb]; cases st <;> simp
    ·rw [blank_high h1, h2]
     simp only [Bool.false_eq_true, if_false]
     obtain ⟨q, rfl⟩ : ∃ q, d' = q + n := ⟨d' - n, by omega⟩
     have e : ∀ st acc, spansFromP blankR s f (pos + (n + 1)) st acc = spansB s q (pos + (n + 1)) st acc := fun st acc => ih q (by omega) f (pos + (n + 1)) st acc (by omega) (by omega)
     simp only [e]
     rw [spansB_word (blank_high h0)]
     have r : ∀ a, spansB s (q + n) (pos + 1) (some a) acc = spansB s q (pos + 1 + n) (some a) acc := fun a => spansB_run s a acc n q (pos + 1) (fun k hk => by have := h4 (k + 1) (by omega); rwa [Nat.add_assoc, Nat.add_comm 1 k])
     have ep : pos + (n + 1) = pos + 1 + n := by omega
     rw [ep]
     cases st with
     | some a => simp only [r]
     | none => simp only [r]
   ·rw [if_neg hp]
    obtain rfl : d = 0 := by omega
    rfl
/-- The words of a line. -/
def wordsB (s : ByteArray) : List ByteArray := (closeSpans s (spansB s s.size 0 none [])).map fun x => s.extract x.1 x.2
theorem goFields_eq (s : ByteArray) : goFieldsP blankR s = wordsB s := by
 unfold goFieldsP spansOfP wordsB
 rw [spans_eq s s.size s.size 0 none [] (by omega) (Nat.le_refl _)]
end Go.Proofs.YtlhajfepcggjaaaGreatDoor.R

set_option linter.unusedVariables false
set_option linter.unusedSimpArgs false
namespace Go.Proofs.YtlhajfepcggjaaaGreatDoor.R
open Go.Lib

/-- The lines of a text, cut one by one. -/
def linesL : Nat → List UInt8 → List (List UInt8)
 | 0, _ => []
 | n + 1, l => if l = [] then [] else (cut l [10]).1 :: linesL n (cut l [10]).2.1
theorem linesL_nil (n : Nat) : linesL n [] = [] := by cases n <;> simp [linesL]
theorem occ_iff (l : List UInt8) (i : Nat) : occAt l [10] i = true ↔ l[i]? = some 10 := by
 unfold occAt
 rw [← List.head?_drop]
 cases h : l.drop i with
 | nil => simp
 | cons b t =>
  simp only [List.isPrefixOf, Bool.and_true, beq_iff_eq, List.head?_cons, Option.some.injEq]
  exact eq_comm
theorem cut_at (l : List UInt8) (n : Nat) (h0 : ∀ j, j < n → l[j]? ≠ some 10) (h1 : l[n]? = some 10) : cut l [10] = (l.take n, l.drop (n + 1), true) := by
 have hn : n ≤ l.length := by
  rcases Nat.lt_or_ge n l.length with h | h
  ·omega
  ·rw [List.getElem?_eq_none h] at h1; cases h1
 have e : index l [10] = (n : Int) := index_first hn ((occ_iff l n).2 h1) (fun j hj => by
  cases h : occAt l [10] j with
  | false => rfl
  | true => exact absurd ((occ_iff l j).1 h) (h0 j hj))
 unfold cut
 rw [e, if_pos (by omega), Int.toNat_natCast]
 rfl
theorem cut_no (l : List UInt8) (h0 : ∀ j : Nat, l[j]? ≠ some 10) : cut l [10] = (l, [], false) := by
 have e : index l [10] = -1 := index_none (fun j _ => by
  cases h : occAt l [10] j with
  | false => rfl
  | true => exact absurd ((occ_iff l j).1 h) (h0 j))
 unfold cut
 rw [e, if_neg (by omega)]
def mk_ (l : List UInt8) : ByteArray := ⟨l.toArray⟩
theorem extract_mk (s : ByteArray) (a b : Nat) : s.extract a b = mk_ ((s.data.toList.drop a).take (b - a)) := by
 unfold mk_
 apply ByteArray.ext
 rw [ByteArray.data_extract]
 apply Array.ext'
 simp
theorem by_at (s : ByteArray) (i : Nat) (h : i < s.size) : s.data.toList[i]? = some (UInt8.ofNat (by_ s i)) := by
 have hl : i < s.data.toList.length := by simpa using h
 rw [List.getElem?_eq_getElem hl]
 unfold by_
 simp [ByteArray.get!, h]

end Go.Proofs.YtlhajfepcggjaaaGreatDoor.R

set_option linter.unusedVariables false
set_option linter.unusedSimpArgs false
namespace Go.Proofs.YtlhajfepcggjaaaGreatDoor.R
open Go.Lib

theorem first10 : ∀ l : List UInt8, (∀ j : Nat, l[j]? ≠ some 10) ∨ ∃ n : Nat, (∀ j : Nat, j < n → l[j]? ≠ some 10) ∧ l[n]? = some 10
 | [] => Or.inl (by simp)
 | b :: l => by
  by_cases hb : b = 10
  ·exact Or.inr ⟨0, fun j h => by omega, by simp [hb]⟩
  ·rcases first10 l with h | ⟨n, h1, h2⟩
   ·refine Or.inl fun j => ?_
    cases j with
    | zero => simpa using hb
    | succ j => simpa using h j
   ·refine Or.inr ⟨n + 1, fun j hj => ?_, by simpa using h2⟩
    cases j with
    | zero => simpa using hb
    | succ j => simpa using h1 j (by omega)
theorem cut_cons (b : UInt8) (l : List UInt8) : cut (b :: l) [10] = if b = 10 then ([], l, true) else (b :: (cut l [10]).1, (cut l [10]).2.1, (cut l [10]).2.2) := by
 by_cases hb : b = 10
 ·rw [if_pos hb, cut_at (b :: l) 0 (fun j h => by omega) (by simp [hb])]
  simp
 ·rw [if_neg hb]
  rcases first10 l with h | ⟨n, h1, h2⟩
  ·rw [cut_no l h, cut_no (b :: l) (fun j => by
    cases j with
    | zero => simpa using hb
    | succ j => simpa using h j)]
  ·rw [cut_at l n h1 h2, cut_at (b :: l) (n + 1) (fun j hj => by
    cases j with
    | zero => simpa using hb
    | succ j => simpa using h1 j (by omega)) (by simpa using h2)]
   simp
theorem cut_nil : cut ([] : List UInt8) [10] = ([], [], false) := cut_no [] (by simp)
theorem cut_len (l : List UInt8) (hl : l ≠ []) : (cut l [10]).2.1.length < l.length := by
 have hpos := List.length_pos_iff.2 hl
 unfold cut
 split
 ·simp only [List.length_drop, List.length_cons, List.length_nil]; omega
 ·simpa using hpos
theorem cut_off (l : List UInt8) (h : (cut l [10]).2.2 = false) : (cut l [10]).1 = l ∧ (cut l [10]).2.1 = [] := by
 unfold cut at h ⊢
 split at h
 ·cases h
 ·rename_i hc
  rw [if_neg hc]
  exact ⟨rfl, rfl⟩
theorem linesL_more (n : Nat) : ∀ (m : Nat) (l : List UInt8), l.length ≤ n → l.length ≤ m → linesL n l = linesL m l := by
 induction n with
 | zero =>
  intro m l h _
  have : l = [] := List.eq_nil_of_length_eq_zero (by omega)
  rw [this, linesL_nil, linesL_nil]
 | succ n ih =>
  intro m l h1 h2
  by_cases hl : l = []
  ·rw [hl, linesL_nil, linesL_nil]
  ·have hpos := List.length_pos_iff.2 hl
   obtain ⟨m, rfl⟩ : ∃ q, m = q + 1 := ⟨m - 1, by omega⟩
   have hc := cut_len l hl
   rw [linesL, linesL, if_neg hl, if_neg hl, ih m _ (by omega) (by omega)]
/-- The lines of a text. -/
def linesA (l : List UInt8) : List (List UInt8) := linesL l.length l
theorem linesA_nil : linesA [] = [] := rfl
theorem linesA_cons (l : List UInt8) (hl : l ≠ []) : linesA l = (cut l [10]).1 :: linesA (cut l [10]).2.1 := by
 have hc := cut_len l hl
 unfold linesA
 obtain ⟨q, hq⟩ : ∃ q, l.length = q + 1 := ⟨l.length - 1, by omega⟩
 rw [hq, linesL, if_neg hl, linesL_more q (cut l [10]).2.1.length _ (by omega) (Nat.le_refl _)]
end Go.Proofs.YtlhajfepcggjaaaGreatDoor.R

set_option linter.unusedVariables false
set_option linter.unusedSimpArgs false
namespace Go.Proofs.YtlhajfepcggjaaaGreatDoor.R
open Go.Lib

def mkB (l : List UInt8) : ByteArray := ⟨l.toArray⟩
theorem mkB_size (l : List UInt8) : (mkB l).size = l.length := by unfold mkB; rfl
theorem by_mkB (l : List UInt8) (i : Nat) (h : i < l.length) : by_ (mkB l) i = (l[i]).toNat := by
 unfold by_ mkB
 simp [ByteArray.get!, h]
end Go.Proofs.YtlhajfepcggjaaaGreatDoor.R

set_option linter.unusedVariables false
set_option linter.unusedSimpArgs false
namespace Go.Proofs.YtlhajfepcggjaaaGreatDoor.R
open Go.Lib

def pieces : List UInt8 → List (List UInt8)
 | [] => [[]]
 | b :: l => if b = 10 then [] :: pieces l else match pieces l with
  | p :: ps => (b :: p) :: ps
  | [] => [[b]]
theorem pieces_cut (l : List UInt8) : pieces l = if (cut l [10]).2.2 then (cut l [10]).1 :: pieces (cut l [10]).2.1 else [l] := by
 induction l with
 | nil => rw [cut_nil]; rfl
 | cons b l ih =>
  rw [cut_cons, pieces]
  by_cases hb : b = 10
  ·rw [if_pos hb, if_pos hb, if_pos rfl]
  ·rw [if_neg hb, if_neg hb, ih]
   cases h : (cut l [10]).2.2 with
   | true => simp
   | false => simp
theorem pieces_ne (l : List UInt8) : pieces l ≠ [] := by
 rw [pieces_cut]
 split <;> simp
/-- What is left without an empty last piece. -/
def linesOf (P : List (List UInt8)) : List (List UInt8) := if P.getLast? = some [] then P.dropLast else P
theorem linesOf_cons (a : List UInt8) (P : List (List UInt8)) (h : P ≠ []) : linesOf (a :: P) = a :: linesOf P := by
 obtain ⟨p, q, rfl⟩ := List.exists_cons_of_ne_nil h
 unfold linesOf
 have e : (a :: p :: q).getLast? = (p :: q).getLast? := by simp [List.getLast?_cons_cons]
 rw [e]
 split <;> simp
theorem lines_pieces (n : Nat) : ∀ l : List UInt8, l.length ≤ n → linesOf (pieces l) = linesA l := by
 induction n with
 | zero =>
  intro l h
  have : l = [] := List.eq_nil_of_length_eq_zero (by omega)
  rw [this]
  rfl
 | succ n ih =>
  intro l h
  by_cases hl : l = []
  ·rw [hl]; rfl
  ·have hc := cut_len l hl
   rw [pieces_cut, linesA_cons l hl]
   cases hf : (cut l [10]).2.2 with
   | true => rw [if_pos rfl, linesOf_cons _ _ (pieces_ne _), ih _ (by omega)]
   | false =>
    obtain ⟨h1, h2⟩ := cut_off l hf
    rw [if_neg (by decide), h1, h2, linesA_nil]
    unfold linesOf
    rw [if_neg (by simp [hl])]
theorem linesA_pieces (l : List UInt8) : linesOf (pieces l) = linesA l := lines_pieces l.length l (Nat.le_refl _)
theorem splitK_pieces (n : Nat) : ∀ l : List UInt8, l.length ≤ n → splitK [10] 0 (count l [10]) l = pieces l := by
 induction n with
 | zero =>
  intro l h
  have : l = [] := List.eq_nil_of_length_eq_zero (by omega)
  subst this
  have e : index ([] : List UInt8) [10] = -1 := index_none (fun j _ => by
   cases h : occAt ([] : List UInt8) [10] j with
   | false => rfl
   | true => exact absurd ((occ_iff _ j).1 h) (by simp))
  rw [count_miss e]
  rfl
 | succ n ih =>
  intro l h
  rw [pieces_cut]
  rcases first10 l with hno | ⟨k, h1, h2⟩
  ·have e : index l [10] = -1 := index_none (fun j _ => by
    cases h : occAt l [10] j with
    | false => rfl
    | true => exact absurd ((occ_iff _ j).1 h) (hno j))
   rw [count_miss e, cut_no l hno]
   rfl
  ·have hk : k < l.length := (List.getElem?_eq_some_iff.1 h2).1
   have e : index l [10] = (k : Int) := index_first (by omega) ((occ_iff l k).2 h2) (fun j hj => by
    cases h : occAt l [10] j with
    | false => rfl
    | true => exact absurd ((occ_iff l j).1 h) (h1 j hj))
   rw [cut_at l k h1 h2, if_pos rfl, count_hit (by decide) e, Nat.add_comm, splitK, e]
   rw [if_neg (by simp only [beq_iff_eq]; omega)]
   simp only [Int.toNat_natCast, Nat.add_zero, List.length_cons, List.length_nil, Nat.zero_add]
   rw [ih (l.drop (k + 1)) (by rw [List.length_drop]; omega)]
theorem mkB_data (s : ByteArray) : mkB s.data.toList = s := by
 unfold mkB
 apply ByteArray.ext
 simp
/-- strings.Split(s, "\n"). -/
theorem split_pieces (s : ByteArray) : splitB (mkB [10]) 0 (countB s (mkB [10])) s = (pieces s.data.toList).map mkB := by
 have h := splitB_data (mkB [10]) 0 (countB s (mkB [10])) s
 have e1 : (mkB [10]).data.toList = [10] := by unfold mkB; simp
 have e2 : countB s (mkB [10]) = count s.data.toList [10] := by unfold countB; rw [e1]
 rw [e1, e2, splitK_pieces s.data.toList.length s.data.toList (Nat.le_refl _)] at h
 rw [e2, ← h, List.map_map]
 conv => lhs; rw [← List.map_id (splitB (mkB [10]) 0 (count s.data.toList [10]) s)]
 apply List.map_congr_left
 intro x _
 exact (mkB_data x).symm
end Go.Proofs.YtlhajfepcggjaaaGreatDoor.R

set_option linter.unusedVariables false
set_option linter.unusedSimpArgs false
namespace Go.Proofs.YtlhajfepcggjaaaGreatDoor.R
open Go.Lib

def digit (c : UInt8) : Bool := decide (48 ≤ c.toNat ∧ c.toNat ≤ 57)
theorem digit_iff {c : UInt8} (h : digit c = true) : 48 ≤ c.toNat ∧ c.toNat ≤ 57 := by
 unfold digit at h
 exact of_decide_eq_true h
def val_ (acc : Nat) : List UInt8 → Nat
 | [] => acc
 | c :: r => val_ (acc * 10 + (c.toNat - 48)) r
theorem val_ge (l : List UInt8) : ∀ acc, acc ≤ val_ acc l := by
 induction l with
 | nil => intro acc; exact Nat.le_refl _
 | cons c l ih => intro acc; exact Nat.le_trans (by omega) (ih _)
def pw : Nat → Nat
 | 0 => 1
 | n + 1 => 10 * pw n
theorem pw_mono {n : Nat} : ∀ m, n ≤ m → pw n ≤ pw m := by
 intro m h
 induction h with
 | refl => exact Nat.le_refl _
 | step _ ih => exact Nat.le_trans ih (by show pw _ ≤ 10 * pw _; omega)
theorem mul_step (a b p : Nat) (h : a ≤ b * 10) : a * p ≤ b * (10 * p) := by
 rw [← Nat.mul_assoc]
 exact Nat.mul_le_mul_right _ h
theorem mul_step2 (a b p : Nat) (h : b * 10 ≤ a) : b * (10 * p) ≤ a * p := by
 rw [← Nat.mul_assoc]
 exact Nat.mul_le_mul_right _ h
theorem val_lt (l : List UInt8) (h : l.all digit = true) : ∀ acc, val_ acc l < (acc + 1) * pw l.length := by
 induction l with
 | nil => intro acc; show acc < (acc + 1) * 1; omega
 | cons c l ih =>
  intro acc
  rw [List.all_cons, Bool.and_eq_true] at h
  have hc := digit_iff h.1
  exact Nat.lt_of_lt_of_le (ih h.2 (acc * 10 + (c.toNat - 48))) (mul_step _ _ _ (by omega))
theorem val_big (l : List UInt8) : ∀ acc, acc * pw l.length ≤ val_ acc l := by
 induction l with
 | nil => intro acc; show acc * 1 ≤ acc; omega
 | cons c l ih =>
  intro acc
  exact Nat.le_trans (mul_step2 _ _ _ (by omega)) (ih (acc * 10 + (c.toNat - 48)))

/-- Digits, at least one, no 0 ahead of others. -/
def canon (l : List UInt8) : Bool := l.all digit && (match l with | [] => false | [_] => true | c :: _ => c != 48)
theorem canon_digits {l : List UInt8} (h : canon l = true) : l.all digit = true := (Bool.and_eq_true _ _ ▸ h : _ ∧ _).1
/-- parseUint10 at digits. -/
theorem parse_ok (l : List UInt8) (h : l.all digit = true) : ∀ acc, val_ acc l < 18446744073709551616 → parseUint10 acc l = .ok (val_ acc l) := by
 induction l with
 | nil => intro acc _; rfl
 | cons c l ih =>
  intro acc hv
  rw [List.all_cons, Bool.and_eq_true] at h
  have hc := digit_iff h.1
  have hg := val_ge l (acc * 10 + (c.toNat - 48))
  have hv' : val_ (acc * 10 + (c.toNat - 48)) l < 18446744073709551616 := hv
  rw [parseUint10, if_pos hc, if_neg (by omega), if_neg (by omega)]
  exact ih h.2 _ hv'
end Go.Proofs.YtlhajfepcggjaaaGreatDoor.R
