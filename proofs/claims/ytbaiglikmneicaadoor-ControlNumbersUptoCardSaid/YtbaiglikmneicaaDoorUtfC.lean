/- A byte below 128 parts a text of letters (UTF-8) in two that are judged apart. No conditions. -/
import Derived.Lib.ValidLaws
set_option linter.unusedVariables false
set_option linter.unusedSimpArgs false
namespace Go.Proofs.YtbaiglikmneicaaDoor.C
open Go.Lib

theorem cont_no {c : UInt8} (hc : c.toNat < 128) : ¬ c.toNat / 64 = 2 := by omega
theorem decode_app (a : List UInt8) (c : UInt8) (b : List UInt8) (ha : a ≠ []) (hc : c.toNat < 128) : decodeL (a ++ c :: b) = decodeL a := by
  have hn := cont_no hc
  rw [decodeL_N, decodeL_N]
  match a, ha with
  | [x], _ => simp [decodeN, hn]
  | [x, y], _ => simp [decodeN, hn]
  | [x, y, z], _ => simp [decodeN, hn]
  | x :: y :: z :: u :: r, _ => simp [decodeN]
theorem validD_app (c : UInt8) (b : List UInt8) (hc : c.toNat < 128) : ∀ (n : Nat) (a : List UInt8), a.length ≤ n → validD (a ++ c :: b) = (validD a && validD b)
  | 0, a, h => by
    have : a = [] := List.eq_nil_of_length_eq_zero (by omega)
    subst this
    rw [validD_nil, Bool.true_and, List.nil_append, validD_cons c b hc]
  | n + 1, a, h => by
    by_cases ha : a = []
    · subst ha
      rw [validD_nil, Bool.true_and, List.nil_append, validD_cons c b hc]
    · have hw := decodeL_width a
      have hl := decodeL_le a ha
      rw [validD_step _ (by simp), validD_step a ha, decode_app a c b ha hc]
      by_cases hx : (decodeL a).1 = 65533 ∧ (decodeL a).2 = 1
      · rw [if_pos hx, if_pos hx]; rfl
      · rw [if_neg hx, if_neg hx, List.drop_append_of_le_length hl]
        exact validD_app c b hc n _ (by rw [List.length_drop]; omega)
theorem validD_at (a : List UInt8) (c : UInt8) (b : List UInt8) (hc : c.toNat < 128) : validD (a ++ c :: b) = (validD a && validD b) := validD_app c b hc a.length a (Nat.le_refl _)
/-- A byte of a text in which only tabs and, where they may be, line feeds are control bytes. -/
def okC (feeds : Bool) (c : UInt8) : Bool := (decide (32 ≤ c.toNat) || c == 9 || (feeds && c == 10)) && c != 127
def fairL (feeds : Bool) (l : List UInt8) : Bool := l.all (okC feeds) && validD l
theorem fair_at (f : Bool) (a : List UInt8) (c : UInt8) (b : List UInt8) (hc : c.toNat < 128) (hk : okC f c = true) : fairL f (a ++ c :: b) = (fairL f a && fairL f b) := by
  unfold fairL
  rw [validD_at a c b hc, List.all_append, List.all_cons, hk]
  cases a.all (okC f) <;> cases b.all (okC f) <;> cases validD a <;> cases validD b <;> rfl
theorem okC_feeds {c : UInt8} (h : okC false c = true) : okC true c = true := by
  unfold okC at *
  simp only [Bool.false_and, Bool.or_false, Bool.true_and, Bool.and_eq_true] at *
  exact ⟨by rw [Bool.or_eq_true]; exact Or.inl h.1, h.2⟩
theorem fair_feeds {l : List UInt8} (h : fairL false l = true) : fairL true l = true := by
  unfold fairL at *
  rw [Bool.and_eq_true] at *
  exact ⟨List.all_eq_true.2 fun c hc => okC_feeds (List.all_eq_true.1 h.1 c hc), h.2⟩
/-- Without a line feed it is the same whether line feeds may be. -/
theorem fair_line {l : List UInt8} (h : ∀ c ∈ l, c ≠ 10) : fairL true l = fairL false l := by
  have e : l.all (okC true) = l.all (okC false) := by
    rw [Bool.eq_iff_iff, List.all_eq_true, List.all_eq_true]
    have k : ∀ c ∈ l, okC true c = okC false c := fun c hc => by
      unfold okC
      have : (c == 10) = false := beq_eq_false_iff_ne.2 (h c hc)
      simp [this]
    exact ⟨fun q c hc => (k c hc) ▸ q c hc, fun q c hc => (k c hc) ▸ q c hc⟩
  unfold fairL
  rw [e]
theorem fair_nil (f : Bool) : fairL f [] = true := by rw [fairL, validD_nil]; rfl
theorem fair_ascii (f : Bool) : ∀ (l : List UInt8), (∀ c ∈ l, c.toNat < 128) → fairL f l = l.all (okC f)
  | [], _ => fair_nil f
  | c :: l, h => by
    have ih := fair_ascii f l (fun x hx => h x (List.mem_cons_of_mem _ hx))
    unfold fairL at *
    rw [validD_cons c l (h c List.mem_cons_self), List.all_cons, Bool.and_assoc, ih]
end Go.Proofs.YtbaiglikmneicaaDoor.C
