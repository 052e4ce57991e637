/- strings.FieldsFunc at blanks, byte by byte: the pieces between bytes 32 and 9. No conditions. -/
import Derived.Lib.FieldsP
namespace Go.Proofs.YtooojhlndlebdaaRRRDoorRRRR.R
open Go.Lib

def blankR (r : Nat) : Bool := r == 32 || r == 9
/-- The byte at a place. -/
def by_ (s : ByteArray) (i : Nat) : Nat := (s.get! i).toNat
/-- The spans, byte by byte. -/
def spansB (s : ByteArray) : Nat → Nat → Option Nat → List (Nat × Nat) → List (Nat × Nat) × Option Nat
  | 0, _, st, acc => (acc, st)
  | d + 1, pos, st, acc =>
    if blankR (by_ s pos) then
      (match st with
       | some a => spansB s d (pos + 1) none (acc ++ [(a, pos)])
       | none => spansB s d (pos + 1) none acc)
    else
      (match st with
       | some a => spansB s d (pos + 1) (some a) acc
       | none => spansB s d (pos + 1) (some pos) acc)

theorem spansB_blank {s : ByteArray} {pos : Nat} (h : blankR (by_ s pos) = true) (d : Nat) (st : Option Nat) (acc : List (Nat × Nat)) : spansB s (d + 1) pos st acc = spansB s d (pos + 1) none (match st with | some a => acc ++ [(a, pos)] | none => acc) := by
  cases st <;> simp [spansB, h]
theorem spansB_word {s : ByteArray} {pos : Nat} (h : blankR (by_ s pos) = false) (d : Nat) (st : Option Nat) (acc : List (Nat × Nat)) : spansB s (d + 1) pos st acc = spansB s d (pos + 1) (some (match st with | some a => a | none => pos)) acc := by
  cases st <;> simp [spansB, h]

theorem decode_parts (s : ByteArray) (i : Nat) (hi : i < s.size) :
    (by_ s i < 128 ∧ Utf8.decode s i = (by_ s i, 1)) ∨ (128 ≤ by_ s i ∧ 128 ≤ (Utf8.decode s i).1 ∧ ∃ n, (Utf8.decode s i).2 = n + 1 ∧ i + n < s.size ∧ ∀ k, k ≤ n → 128 ≤ by_ s (i + k)) := by
  by_cases h0 : by_ s i < 128
  · refine Or.inl ⟨h0, ?_⟩
    unfold by_ at h0 ⊢
    unfold Utf8.decode
    simp only [Nat.add_zero]
    rw [if_pos h0]
  · refine Or.inr ⟨by omega, ?_⟩
    have b0 : ¬ (s.get! i).toNat < 128 := h0
    unfold Utf8.decode
    simp only [Nat.add_zero]
    rw [if_neg b0]
    have one : 128 ≤ Utf8.runeError ∧ ∃ n, 1 = n + 1 ∧ i + n < s.size ∧ ∀ k, k ≤ n → 128 ≤ by_ s (i + k) := ⟨by decide, 0, rfl, hi, fun k hk => by
      obtain rfl : k = 0 := by omega
      rw [Nat.add_zero]; unfold by_; omega⟩
    split
    · rename_i h
      simp only [Bool.and_eq_true, beq_iff_eq, decide_eq_true_eq] at h
      obtain ⟨_, h1, h2⟩ := h
      split
      · rename_i h3
        refine ⟨h3, 1, rfl, h1, fun k hk => ?_⟩
        rcases Nat.lt_or_ge k 1 with hk1 | hk1
        · obtain rfl : k = 0 := by omega
          rw [Nat.add_zero]; unfold by_; omega
        · obtain rfl : k = 1 := by omega
          unfold by_; omega
      · exact one
    · split
      · rename_i h
        simp only [Bool.and_eq_true, beq_iff_eq, decide_eq_true_eq] at h
        obtain ⟨⟨_, h1, h2⟩, h3, h4⟩ := h
        split
        · rename_i h5
          simp only [Bool.and_eq_true, decide_eq_true_eq] at h5
          refine ⟨Nat.le_trans (by decide) h5.1, 2, rfl, h3, fun k hk => ?_⟩
          rcases (by omega : k = 0 ∨ k = 1 ∨ k = 2) with rfl | rfl | rfl
          · rw [Nat.add_zero]; unfold by_; omega
          · unfold by_; omega
          · unfold by_; omega
        · exact one
      · split
        · rename_i h
          simp only [Bool.and_eq_true, beq_iff_eq, decide_eq_true_eq] at h
          obtain ⟨⟨⟨_, h1, h2⟩, h3, h4⟩, h5, h6⟩ := h
          split
          · rename_i h7
            simp only [Bool.and_eq_true, decide_eq_true_eq] at h7
            refine ⟨Nat.le_trans (by decide) h7.1, 3, rfl, h5, fun k hk => ?_⟩
            rcases (by omega : k = 0 ∨ k = 1 ∨ k = 2 ∨ k = 3) with rfl | rfl | rfl | rfl
            · rw [Nat.add_zero]; unfold by_; omega
            · unfold by_; omega
            · unfold by_; omega
            · unfold by_; omega
          · exact one
        · exact one

theorem blank_high {r : Nat} (h : 128 ≤ r) : blankR r = false := by
  unfold blankR
  rw [Bool.or_eq_false_iff]
  exact ⟨beq_eq_false_iff_ne.2 (by omega), beq_eq_false_iff_ne.2 (by omega)⟩
/-- A run of high bytes, a piece being open. -/
theorem spansB_run (s : ByteArray) (a : Nat) (acc : List (Nat × Nat)) (n : Nat) : ∀ (d pos : Nat), (∀ k, k < n → 128 ≤ by_ s (pos + k)) → spansB s (d + n) pos (some a) acc = spansB s d (pos + n) (some a) acc := by
  induction n with
  | zero => intro d pos _; rfl
  | succ n ih =>
    intro d pos h
    have h0 := h 0 (by omega)
    rw [Nat.add_zero] at h0
    rw [← Nat.add_assoc, spansB_word (blank_high h0)]
    rw [ih d (pos + 1) (fun k hk => by have := h (k + 1) (by omega); rwa [Nat.add_assoc, Nat.add_comm 1 k])]
    congr 1
    omega

theorem spans_eq (s : ByteArray) (d : Nat) : ∀ (f pos : Nat) (st : Option Nat) (acc : List (Nat × Nat)), s.size - pos = d → d ≤ f → spansFromP blankR s f pos st acc = spansB s d pos st acc := by
  induction d using Nat.strongRecOn with
  | _ d ih =>
    intro f pos st acc hd hf
    cases f with
    | zero =>
      obtain rfl : d = 0 := by omega
      rfl
    | succ f =>
      unfold spansFromP
      by_cases hp : pos < s.size
      · rw [if_pos hp]
        obtain ⟨d', rfl⟩ : ∃ d', d = d' + 1 := ⟨d - 1, by omega⟩
        rcases decode_parts s pos hp with ⟨h0, h1⟩ | ⟨h0, h1, n, h2, h3, h4⟩
        · rw [h1]
          have e : ∀ st acc, spansFromP blankR s f (pos + 1) st acc = spansB s d' (pos + 1) st acc := fun st acc => ih d' (by omega) f (pos + 1) st acc (by omega) (by omega)
          simp only [e]
          cases hb : blankR (by_ s pos) with
          | true => rw [spansB_blank hb]; cases st <;> simp
          | false => rw [spansB_word hb]; cases st <;> simp
        · rw [blank_high h1, h2]
          simp only [Bool.false_eq_true, if_false]
          obtain ⟨q, rfl⟩ : ∃ q, d' = q + n := ⟨d' - n, by omega⟩
          have e : ∀ st acc, spansFromP blankR s f (pos + (n + 1)) st acc = spansB s q (pos + (n + 1)) st acc := fun st acc => ih q (by omega) f (pos + (n + 1)) st acc (by omega) (by omega)
          simp only [e]
          rw [spansB_word (blank_high h0)]
          have r : ∀ a, spansB s (q + n) (pos + 1) (some a) acc = spansB s q (pos + 1 + n) (some a) acc := fun a => spansB_run s a acc n q (pos + 1) (fun k hk => by have := h4 (k + 1) (by omega); rwa [Nat.add_assoc, Nat.add_comm 1 k])
          have ep : pos + (n + 1) = pos + 1 + n := by omega
          rw [ep]
          cases st with
          | some a => simp only [r]
          | none => simp only [r]
      · rw [if_neg hp]
        obtain rfl : d = 0 := by omega
        rfl
/-- The words of a line. -/
def wordsB (s : ByteArray) : List ByteArray := (closeSpans s (spansB s s.size 0 none [])).map fun x => s.extract x.1 x.2
theorem goFields_eq (s : ByteArray) : goFieldsP blankR s = wordsB s := by
  unfold goFieldsP spansOfP wordsB
  rw [spans_eq s s.size s.size 0 none [] (by omega) (Nat.le_refl _)]
end Go.Proofs.YtooojhlndlebdaaRRRDoorRRRR.R
