/- What the reference's Words come to: the pieces between blanks. No conditions. -/
import Derived.Test.YtooojhlndlebdaaRRRDoorRRRRRx1
import Derived.Test.YtooojhlndlebdaaRRRDoorRRRRFieldsB
set_option linter.unusedVariables false
set_option linter.unusedSimpArgs false
namespace Go.Proofs.YtooojhlndlebdaaRRRDoorRRRR.R
open Go.RowKit Go.Lib Go.Proofs.YtooojhlndlebdaaRRRDoorRRRRW.PrintWords Go.Proofs.YtooojhlndlebdaaRRRDoorRRRRW.PrintLast Go.Proofs.YtooojhlndlebdaaRRRDoorRRRRW.PrintMore

theorem w64r {x : Int} (h0 : -9223372036854775808 ≤ x) (h1 : x ≤ 9223372036854775807) : wrap64 x = x := by
  unfold wrap64; omega
theorem succ_ofr {k d : Nat} (h : d < k) : ∃ m, k = m + 1 := ⟨k - 1, by omega⟩
theorem bt_nat (s : ByteArray) (i : Nat) (h : i < s.size) : bt s (i : Int) = (by_ s i : Int) := by
  unfold bt by_
  rw [Int.toNat_natCast, dif_pos h]
  congr 1
  simp [ByteArray.get!, h]
  rfl
def ext_ (s : ByteArray) (x : Nat × Nat) : ByteArray := s.extract x.1 x.2
def open_ (a i : Nat) : Option Nat := if a < i then some a else none

theorem words_l0 (s : ByteArray) (hs : s.size ≤ 4398046511104) (d : Nat) : ∀ (k i a : Nat) (acc : List (Nat × Nat)), i ≤ s.size → s.size - i = d → a ≤ i → acc.length ≤ i → 2 * d + 3 < k →
    depotref03_Words.l0 k s (acc.map (ext_ s)) (a : Int) (i : Int) = some ((closeSpans s (spansB s d i (open_ a i) acc)).map (ext_ s)) := by
  induction d with
  | zero =>
    intro k i a acc h0 hd ha hl hk
    obtain ⟨k, rfl⟩ := succ_ofr hk
    obtain ⟨k, rfl⟩ := succ_ofr (show 1 < k by omega)
    obtain ⟨k, rfl⟩ := succ_ofr (show 0 < k by omega)
    obtain rfl : i = s.size := by omega
    rw [depotref03_Words.l0, if_pos (by omega), if_neg (by omega), depotref03_Words.j1, if_neg (by decide)]
    simp only [spansB, open_]
    by_cases hai : a < s.size
    · rw [if_pos hai, if_pos (by omega), if_pos (by omega), if_pos (by omega), if_pos (by omega), if_pos (by rw [List.length_map]; omega)]
      rw [w64r (by omega) (by omega), depotref03_Words.l0, if_neg (by omega)]
      simp [closeSpans, ext_]
    · rw [if_neg hai, if_neg (by omega), w64r (by omega) (by omega), depotref03_Words.l0, if_neg (by omega)]
      simp [closeSpans]
  | succ d ih =>
    intro k i a acc h0 hd ha hl hk
    obtain ⟨k, rfl⟩ := succ_ofr hk
    obtain ⟨k, rfl⟩ := succ_ofr (show 2 * d + 3 < k by omega)
    have hi : i < s.size := by omega
    have e1 : ((i : Int) + 1) = ((i + 1 : Nat) : Int) := by omega
    have gap : blankR (by_ s i) = true → depotref03_Words.j1 (k + 1) s (acc.map (ext_ s)) (a : Int) (i : Int) false = some ((closeSpans s (spansB s (d + 1) i (open_ a i) acc)).map (ext_ s)) := by
      intro hb
      rw [spansB_blank hb, depotref03_Words.j1, if_neg (by decide)]
      by_cases hai : a < i
      · rw [if_pos (by omega), if_pos (by omega), if_pos (by omega), if_pos (by omega), if_pos (by rw [List.length_map]; omega), w64r (by omega) (by omega), e1]
        have := ih k (i + 1) (i + 1) (acc ++ [(a, i)]) (by omega) (by omega) (by omega) (by simp; omega) (by omega)
        rw [List.map_append] at this
        simp only [open_, if_pos hai]
        rw [open_, if_neg (Nat.lt_irrefl _)] at this
        simpa [ext_] using this
      · rw [if_neg (by omega), w64r (by omega) (by omega), e1]
        have := ih k (i + 1) (i + 1) acc (by omega) (by omega) (by omega) (by omega) (by omega)
        simp only [open_, if_neg hai]
        rw [open_, if_neg (Nat.lt_irrefl _)] at this
        exact this
    have on : blankR (by_ s i) = false → depotref03_Words.j1 (k + 1) s (acc.map (ext_ s)) (a : Int) (i : Int) true = some ((closeSpans s (spansB s (d + 1) i (open_ a i) acc)).map (ext_ s)) := by
      intro hb
      rw [spansB_word hb, depotref03_Words.j1, if_pos rfl, w64r (by omega) (by omega), e1]
      have := ih k (i + 1) a acc (by omega) (by omega) (by omega) (by omega) (by omega)
      rw [this]
      have e2 : open_ a (i + 1) = some (match open_ a i with | some a => a | none => i) := by
        unfold open_
        by_cases hai : a < i
        · rw [if_pos hai, if_pos (by omega)]
        · rw [if_neg hai, if_pos (by omega)]
          obtain rfl : a = i := by omega
          rfl
      rw [e2]
      rfl
    rw [depotref03_Words.l0, if_pos (by omega), if_pos (by omega), if_pos (by omega), bt_nat s i hi]
    by_cases h32 : (by_ s i : Int) = 32
    · rw [if_pos h32]
      exact gap (by unfold blankR; rw [Bool.or_eq_true]; exact Or.inl (beq_iff_eq.2 (by omega)))
    · rw [if_neg h32]
      by_cases h9 : (by_ s i : Int) = 9
      · have hb : blankR (by_ s i) = true := by unfold blankR; rw [Bool.or_eq_true]; exact Or.inr (beq_iff_eq.2 (by omega))
        rw [h9, bne_self_eq_false]
        exact gap hb
      · have hb : blankR (by_ s i) = false := by
          unfold blankR
          rw [Bool.or_eq_false_iff]
          exact ⟨beq_eq_false_iff_ne.2 (by omega), beq_eq_false_iff_ne.2 (by omega)⟩
        rw [bne_iff_ne.2 h9]
        exact on hb
theorem words_is (s : ByteArray) (hs : s.size ≤ 4398046511104) (k : Nat) (hk : 2 * s.size + 3 < k) : depotref03_Words.f k s = some (wordsB s) := by
  unfold depotref03_Words.f wordsB
  exact words_l0 s hs s.size k 0 0 [] (by omega) (by omega) (by omega) (by simp) hk
end Go.Proofs.YtooojhlndlebdaaRRRDoorRRRR.R
