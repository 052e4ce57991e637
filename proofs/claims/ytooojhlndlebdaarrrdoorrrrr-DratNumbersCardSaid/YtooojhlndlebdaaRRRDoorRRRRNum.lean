/- Numbers in tens: strconv.Itoa and Atoi are each other's way back, on the texts that are written shortest. No conditions. -/
import Derived.Lib.AtoiAll
import Derived.Lib.ItoaMem
set_option linter.unusedVariables false
set_option linter.unusedSimpArgs false
namespace Go.Proofs.YtooojhlndlebdaaRRRDoorRRRR.R
open Go.Lib

def digit (c : UInt8) : Bool := decide (48 ≤ c.toNat ∧ c.toNat ≤ 57)
theorem digit_iff {c : UInt8} (h : digit c = true) : 48 ≤ c.toNat ∧ c.toNat ≤ 57 := by
  unfold digit at h
  exact of_decide_eq_true h
def val_ (acc : Nat) : List UInt8 → Nat
  | [] => acc
  | c :: r => val_ (acc * 10 + (c.toNat - 48)) r
theorem val_append (l m : List UInt8) : ∀ acc, val_ acc (l ++ m) = val_ (val_ acc l) m := by
  induction l with
  | nil => intro acc; rfl
  | cons c l ih => intro acc; exact ih _
theorem val_ge (l : List UInt8) : ∀ acc, acc ≤ val_ acc l := by
  induction l with
  | nil => intro acc; exact Nat.le_refl _
  | cons c l ih => intro acc; exact Nat.le_trans (by omega) (ih _)
def pw : Nat → Nat
  | 0 => 1
  | n + 1 => 10 * pw n
theorem pw_mono {n : Nat} : ∀ m, n ≤ m → pw n ≤ pw m := by
  intro m h
  induction h with
  | refl => exact Nat.le_refl _
  | step _ ih => exact Nat.le_trans ih (by show pw _ ≤ 10 * pw _; omega)
theorem mul_step (a b p : Nat) (h : a ≤ b * 10) : a * p ≤ b * (10 * p) := by
  rw [← Nat.mul_assoc]
  exact Nat.mul_le_mul_right _ h
theorem mul_step2 (a b p : Nat) (h : b * 10 ≤ a) : b * (10 * p) ≤ a * p := by
  rw [← Nat.mul_assoc]
  exact Nat.mul_le_mul_right _ h
theorem val_lt (l : List UInt8) (h : l.all digit = true) : ∀ acc, val_ acc l < (acc + 1) * pw l.length := by
  induction l with
  | nil => intro acc; show acc < (acc + 1) * 1; omega
  | cons c l ih =>
    intro acc
    rw [List.all_cons, Bool.and_eq_true] at h
    have hc := digit_iff h.1
    exact Nat.lt_of_lt_of_le (ih h.2 (acc * 10 + (c.toNat - 48))) (mul_step _ _ _ (by omega))
theorem val_big (l : List UInt8) : ∀ acc, acc * pw l.length ≤ val_ acc l := by
  induction l with
  | nil => intro acc; show acc * 1 ≤ acc; omega
  | cons c l ih =>
    intro acc
    exact Nat.le_trans (mul_step2 _ _ _ (by omega)) (ih (acc * 10 + (c.toNat - 48)))

/-- Digits, at least one, no 0 ahead of others. -/
def canon (l : List UInt8) : Bool := l.all digit && (match l with | [] => false | [_] => true | c :: _ => c != 48)
theorem canon_digits {l : List UInt8} (h : canon l = true) : l.all digit = true := (Bool.and_eq_true _ _ ▸ h : _ ∧ _).1
theorem dec_lt {u : Nat} (h : u < 10) : decDigits u = [UInt8.ofNat (48 + u)] := by rw [decDigits, dif_pos h]
theorem dec_ge {u : Nat} (h : ¬ u < 10) : decDigits u = decDigits (u / 10) ++ [UInt8.ofNat (48 + u % 10)] := by rw [decDigits, dif_neg h]
theorem digit_ofNat {d : Nat} (h : d < 10) : digit (UInt8.ofNat (48 + d)) = true ∧ (UInt8.ofNat (48 + d)).toNat - 48 = d := by
  have : (UInt8.ofNat (48 + d)).toNat = 48 + d := by rw [UInt8.toNat_ofNat']; omega
  unfold digit
  rw [this]
  exact ⟨decide_eq_true (by omega), by omega⟩
theorem canon_snoc {l : List UInt8} (hl : canon l = true) (h0 : l ≠ [48]) {c : UInt8} (hc : digit c = true) : canon (l ++ [c]) = true := by
  unfold canon at hl ⊢
  rw [Bool.and_eq_true] at hl ⊢
  refine ⟨by rw [List.all_append, hl.1]; simpa using hc, ?_⟩
  match l, hl, h0 with
  | [], hl, _ => exact absurd hl.2 (by simp)
  | [a], _, h0 => exact bne_iff_ne.2 (fun e => h0 (by rw [e]))
  | a :: b :: r, hl, _ => exact hl.2
theorem dec_props (u : Nat) : canon (decDigits u) = true ∧ val_ 0 (decDigits u) = u ∧ (decDigits u = [48] → u = 0) := by
  induction u using Nat.strongRecOn with
  | _ u ih =>
    by_cases h : u < 10
    · have hd := digit_ofNat h
      rw [dec_lt h]
      refine ⟨?_, ?_, fun e => ?_⟩
      · show (digit (UInt8.ofNat (48 + u)) && true && true) = true
        rw [hd.1]; rfl
      · show 0 * 10 + ((UInt8.ofNat (48 + u)).toNat - 48) = u
        rw [hd.2]; omega
      · have h48 := hd.2
        have e1 : UInt8.ofNat (48 + u) = 48 := List.head_eq_of_cons_eq e
        rw [e1] at h48
        have e48 : (48 : UInt8).toNat = 48 := rfl
        omega
    · have hd := digit_ofNat (d := u % 10) (Nat.mod_lt _ (by omega))
      obtain ⟨h1, h2, h3⟩ := ih (u / 10) (by omega)
      rw [dec_ge h]
      refine ⟨canon_snoc h1 (fun e => by have := h3 e; omega) hd.1, ?_, fun e => ?_⟩
      · rw [val_append, h2]
        show u / 10 * 10 + ((UInt8.ofNat (48 + u % 10)).toNat - 48) = u
        rw [hd.2]
        omega
      · have := congrArg List.length e
        have h4 : decDigits (u / 10) ≠ [] := by intro e4; rw [e4] at h1; simp [canon] at h1
        have h5 := List.length_pos_iff.2 h4
        rw [List.length_append] at this
        simp only [List.length_cons, List.length_nil] at this
        omega
theorem snoc_of {α : Type} (l : List α) (h : l ≠ []) : ∃ m c, l = m ++ [c] := ⟨l.dropLast, l.getLast h, (List.dropLast_concat_getLast h).symm⟩
/-- What is written shortest is written so. -/
theorem canon_dec (n : Nat) : ∀ l : List UInt8, l.length = n → canon l = true → decDigits (val_ 0 l) = l := by
  induction n with
  | zero =>
    intro l hl h
    obtain rfl := List.eq_nil_of_length_eq_zero hl
    simp [canon] at h
  | succ n ih =>
    intro l hl h
    obtain ⟨m, c, rfl⟩ := snoc_of l (by intro e; rw [e] at hl; simp at hl)
    have hdig := canon_digits h
    rw [List.all_append, Bool.and_eq_true] at hdig
    have hc : digit c = true := by simpa using hdig.2
    have hcr := digit_iff hc
    have ec : UInt8.ofNat (48 + (c.toNat - 48)) = c := by rw [show 48 + (c.toNat - 48) = c.toNat by omega]; simp
    rw [val_append]
    show decDigits (val_ 0 m * 10 + (c.toNat - 48)) = m ++ [c]
    match m, hl, h, hdig with
    | [], _, _, _ =>
      have e0 : val_ 0 [] * 10 + (c.toNat - 48) = c.toNat - 48 := by show 0 * 10 + _ = _; omega
      rw [e0, dec_lt (by omega), ec]
      rfl
    | a :: r, hl, h, hdig =>
      have ha : a ≠ 48 := by
        unfold canon at h
        rw [Bool.and_eq_true] at h
        have h2 := h.2
        cases r <;> exact bne_iff_ne.1 h2
      have hm : canon (a :: r) = true := by
        unfold canon
        rw [hdig.1, Bool.true_and]
        cases r with
        | nil => rfl
        | cons b r => exact bne_iff_ne.2 ha
      have hcm := ih (a :: r) (by simp at hl ⊢; omega) hm
      have had : digit a = true := by have := hdig.1; rw [List.all_cons, Bool.and_eq_true] at this; exact this.1
      have hadr := digit_iff had
      have hpos : 1 ≤ val_ 0 (a :: r) := by
        have h1 := val_ge r (0 * 10 + (a.toNat - 48))
        have h2 : a.toNat ≠ 48 := fun e => ha (UInt8.toNat_inj.1 e)
        show 1 ≤ val_ (0 * 10 + (a.toNat - 48)) r
        omega
      rw [dec_ge (by omega), show (val_ 0 (a :: r) * 10 + (c.toNat - 48)) / 10 = val_ 0 (a :: r) by omega, show (val_ 0 (a :: r) * 10 + (c.toNat - 48)) % 10 = c.toNat - 48 by omega, hcm, ec]
/-- parseUint10 at digits. -/
theorem parse_ok (l : List UInt8) (h : l.all digit = true) : ∀ acc, val_ acc l < 18446744073709551616 → parseUint10 acc l = .ok (val_ acc l) := by
  induction l with
  | nil => intro acc _; rfl
  | cons c l ih =>
    intro acc hv
    rw [List.all_cons, Bool.and_eq_true] at h
    have hc := digit_iff h.1
    have hg := val_ge l (acc * 10 + (c.toNat - 48))
    have hv' : val_ (acc * 10 + (c.toNat - 48)) l < 18446744073709551616 := hv
    rw [parseUint10, if_pos hc, if_neg (by omega), if_neg (by omega)]
    exact ih h.2 _ hv'
end Go.Proofs.YtooojhlndlebdaaRRRDoorRRRR.R
