/- The words of a line, byte by byte, as lists of bytes. No conditions. -/
import Derived.Test.YtooojhlndlebdaaRRRDoorRRRRFieldsB
set_option linter.unusedVariables false
set_option linter.unusedSimpArgs false
namespace Go.Proofs.YtooojhlndlebdaaRRRDoorRRRR.R
open Go.Lib

def mkB (l : List UInt8) : ByteArray := ⟨l.toArray⟩
theorem mkB_size (l : List UInt8) : (mkB l).size = l.length := by unfold mkB; rfl
theorem mkB_extract (l : List UInt8) (a b : Nat) : (mkB l).extract a b = mkB ((l.drop a).take (b - a)) := by
  unfold mkB
  apply ByteArray.ext
  rw [ByteArray.data_extract]
  apply Array.ext'
  simp
/-- The words, 'cur' being open. -/
def wordsL : List UInt8 → List UInt8 → List (List UInt8)
  | cur, [] => if cur = [] then [] else [cur]
  | cur, c :: r => if blankR c.toNat then (if cur = [] then wordsL [] r else cur :: wordsL [] r) else wordsL (cur ++ [c]) r
def cur_ (l : List UInt8) (pos : Nat) : Option Nat → List UInt8
  | none => []
  | some a => (l.drop a).take (pos - a)
theorem by_mkB (l : List UInt8) (i : Nat) (h : i < l.length) : by_ (mkB l) i = (l[i]).toNat := by
  unfold by_ mkB
  simp [ByteArray.get!, h]
theorem words_spans (l : List UInt8) (d : Nat) : ∀ (pos : Nat) (st : Option Nat) (acc : List (Nat × Nat)), pos ≤ l.length → l.length - pos = d → (∀ a, st = some a → a < pos) →
    (closeSpans (mkB l) (spansB (mkB l) d pos st acc)).map (fun x => (mkB l).extract x.1 x.2) = acc.map (fun x => (mkB l).extract x.1 x.2) ++ (wordsL (cur_ l pos st) (l.drop pos)).map mkB := by
  induction d with
  | zero =>
    intro pos st acc h0 hd hst
    obtain rfl : pos = l.length := by omega
    rw [List.drop_of_length_le (Nat.le_refl _)]
    cases st with
    | none => simp [spansB, closeSpans, wordsL, cur_]
    | some a =>
      have ha := hst a rfl
      have hne : (l.drop a).take (l.length - a) ≠ [] := by
        intro h
        have := congrArg List.length h
        simp at this
        omega
      have hne' : cur_ l l.length (some a) ≠ [] := hne
      rw [wordsL, if_neg hne']
      simp only [spansB, closeSpans, cur_, List.map_append, List.map_cons, List.map_nil]
      rw [mkB_extract, mkB_size]
  | succ d ih =>
    intro pos st acc h0 hd hst
    have hp : pos < l.length := by omega
    rw [List.drop_eq_getElem_cons hp, wordsL]
    cases hb : blankR (by_ (mkB l) pos) with
    | true =>
      rw [spansB_blank hb, ih (pos + 1) none _ (by omega) (by omega) (fun a h => by cases h)]
      rw [by_mkB l pos hp] at hb
      rw [if_pos hb]
      cases st with
      | none => simp [cur_]
      | some a =>
        have ha := hst a rfl
        have hne : (l.drop a).take (pos - a) ≠ [] := by
          intro h
          have := congrArg List.length h
          simp at this
          omega
        have hne' : cur_ l pos (some a) ≠ [] := hne
        rw [if_neg hne']
        simp only [cur_, List.map_append, List.map_cons, List.map_nil, List.append_assoc, List.singleton_append]
        rw [mkB_extract]
    | false =>
      rw [spansB_word hb]
      rw [by_mkB l pos hp] at hb
      rw [if_neg (by rw [hb]; decide)]
      have key : ∀ a, a ≤ pos → (l.drop a).take (pos + 1 - a) = (l.drop a).take (pos - a) ++ [l[pos]] := fun a ha => by
        rw [show pos + 1 - a = (pos - a) + 1 by omega, List.take_succ_eq_append_getElem (by simp; omega)]
        congr 2
        rw [List.getElem_drop]
        congr 1
        omega
      cases st with
      | none =>
        simp only
        rw [ih (pos + 1) (some pos) acc (by omega) (by omega) (fun a h => by cases h; omega)]
        simp only [cur_]
        rw [key pos (Nat.le_refl _)]
        simp
      | some a =>
        have ha := hst a rfl
        simp only
        rw [ih (pos + 1) (some a) acc (by omega) (by omega) (fun b h => by cases h; omega)]
        simp only [cur_]
        rw [key a (by omega)]
theorem words_mk (l : List UInt8) : wordsB (mkB l) = (wordsL [] l).map mkB := by
  have := words_spans l l.length 0 none [] (by omega) (by omega) (fun a h => by cases h)
  unfold wordsB
  rw [mkB_size]
  simpa [cur_] using this
/-- A byte that may stand in a word. -/
def wordy (c : UInt8) : Prop := blankR c.toNat = false
theorem wordsL_word (w : List UInt8) : ∀ (cur r : List UInt8), (∀ c ∈ w, blankR c.toNat = false) → wordsL cur (w ++ r) = wordsL (cur ++ w) r := by
  induction w with
  | nil => intro cur r _; simp
  | cons c w ih =>
    intro cur r h
    rw [List.cons_append, wordsL, if_neg (by rw [h c List.mem_cons_self]; decide), ih _ _ (fun c hc => h c (List.mem_cons_of_mem _ hc))]
    simp
theorem wordsL_end (w : List UInt8) (hw : w ≠ []) (h : ∀ c ∈ w, blankR c.toNat = false) : wordsL [] w = [w] := by
  have := wordsL_word w [] [] h
  rw [List.append_nil] at this
  rw [this, List.nil_append, wordsL, if_neg hw]
theorem wordsL_next (w : List UInt8) (hw : w ≠ []) (h : ∀ c ∈ w, blankR c.toNat = false) (b : UInt8) (hb : blankR b.toNat = true) (r : List UInt8) : wordsL [] (w ++ b :: r) = w :: wordsL [] r := by
  rw [wordsL_word w [] _ h, List.nil_append, wordsL, if_pos hb, if_neg hw]
theorem wordsL_blank (b : UInt8) (hb : blankR b.toNat = true) (r : List UInt8) : wordsL [] (b :: r) = wordsL [] r := by
  rw [wordsL, if_pos hb, if_pos rfl]
end Go.Proofs.YtooojhlndlebdaaRRRDoorRRRR.R
