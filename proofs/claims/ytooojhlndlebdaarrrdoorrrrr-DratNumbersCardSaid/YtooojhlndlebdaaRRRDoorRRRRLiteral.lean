/- A literal's word: what strconv.Atoi, Itoa and Formed take is what the reference's Tens, Value and Formed take. No conditions. -/
import Derived.Test.YtooojhlndlebdaaRRRDoorRRRRRx4
import Derived.Test.YtooojhlndlebdaaRRRDoorRRRRTensIs
import Derived.Test.YtooojhlndlebdaaRRRDoorRRRREValueR
set_option linter.unusedVariables false
set_option linter.unusedSimpArgs false
namespace Go.Proofs.YtooojhlndlebdaaRRRDoorRRRR.R
open Go.RowKit Go.Lib Go.Proofs.YtooojhlndlebdaaRRRDoorRRRRW.PrintWords Go.Proofs.YtooojhlndlebdaaRRRDoorRRRRW.PrintLast Go.Proofs.YtooojhlndlebdaaRRRDoorRRRRW.PrintMore

def litOk (x : Int) : Bool := decide (x ≠ 0 ∧ -1048576 ≤ x ∧ x ≤ 1048576)
theorem refFormed_is (x : Int) : depotref01_Formed.f x = some (litOk x) := by
  unfold depotref01_Formed.f litOk
  by_cases h : x ≥ 1
  · rw [if_pos h]
    by_cases h1 : x ≤ 1048576
    · rw [if_pos h1]; congr 1; symm; rw [decide_eq_true_eq]; omega
    · rw [if_neg h1, if_pos (by omega)]; congr 1; rw [decide_eq_decide]; omega
  · rw [if_neg h]
    by_cases h1 : x ≥ -1048576
    · rw [if_pos h1]; congr 1; rw [decide_eq_decide]; omega
    · rw [if_neg h1]; congr 1; symm; rw [decide_eq_false_iff_not]; omega
/-- The literal that a word is. -/
def litN (l : List UInt8) : Option Int :=
  match atoiAll l with
  | .ok n => if itoa n = l ∧ litOk n = true then some n else none
  | _ => none
theorem litN_some {l : List UInt8} {n : Int} (h : litN l = some n) : atoiAll l = .ok n ∧ itoa n = l ∧ litOk n = true := by
  unfold litN at h
  cases ha : atoiAll l with
  | ok m =>
    rw [ha] at h
    simp only at h
    by_cases hc : itoa m = l ∧ litOk m = true
    · rw [if_pos hc] at h
      obtain rfl := Option.some.inj h
      exact ⟨rfl, hc⟩
    · rw [if_neg hc] at h
      cases h
  | _ => rw [ha] at h; cases h
theorem canon_ne {D : List UInt8} (h : canon D = true) : D ≠ [] := by intro e; rw [e] at h; simp [canon] at h
theorem canon_head {c : UInt8} {r : List UInt8} (h : canon (c :: r) = true) : 48 ≤ c.toNat ∧ c.toNat ≤ 57 := by
  have := canon_digits h
  rw [List.all_cons, Bool.and_eq_true] at this
  exact digit_iff this.1
theorem canon_pos {D : List UInt8} (h : canon D = true) (h0 : D ≠ [48]) : pw (D.length - 1) ≤ val_ 0 D := by
  match D, h, h0 with
  | [], h, _ => simp [canon] at h
  | c :: r, h, h0 =>
    have hc := canon_head h
    have hne : c.toNat ≠ 48 := by
      intro e
      have ec : c = 48 := UInt8.toNat_inj.1 e
      cases r with
      | nil => exact h0 (by rw [ec])
      | cons b r =>
        unfold canon at h
        rw [Bool.and_eq_true] at h
        exact (bne_iff_ne.1 h.2) ec
    have hb := val_big r (0 * 10 + (c.toNat - 48))
    have h1 : 1 * pw r.length ≤ (0 * 10 + (c.toNat - 48)) * pw r.length := Nat.mul_le_mul_right _ (by omega)
    show pw r.length ≤ val_ (0 * 10 + (c.toNat - 48)) r
    omega
theorem pw_pos (n : Nat) : 1 ≤ pw n := by
  induction n with
  | zero => exact Nat.le_refl _
  | succ n ih => show 1 ≤ 10 * pw n; omega
theorem atoi_pos {D : List UInt8} (h : canon D = true) (hv : val_ 0 D < 9223372036854775808) : atoiAll D = .ok (val_ 0 D : Nat) := by
  match D, h, hv with
  | [], h, _ => simp [canon] at h
  | c :: r, h, hv =>
    have hc := canon_head h
    have hp := parse_ok (c :: r) (canon_digits h) 0 (by omega)
    have hm : parseMag (c :: r) = .ok (val_ 0 (c :: r)) := by unfold parseMag; rw [if_neg (by simp)]; exact hp
    unfold atoiAll
    simp only
    rw [if_neg (by omega), hm]
    simp only
    rw [if_neg (by omega), if_neg (by omega), if_neg (by omega)]
theorem atoi_neg {D : List UInt8} (h : canon D = true) (hv : val_ 0 D < 9223372036854775808) : atoiAll (45 :: D) = .ok (-(val_ 0 D : Nat) : Int) := by
  have hp := parse_ok D (canon_digits h) 0 (by omega)
  have hm : parseMag D = .ok (val_ 0 D) := by unfold parseMag; rw [if_neg (canon_ne h)]; exact hp
  have e45 : (45 : UInt8).toNat = 45 := rfl
  unfold atoiAll
  simp only
  rw [if_pos (Or.inr e45), hm]
  simp only
  rw [if_neg (by omega), if_neg (by omega), if_pos e45]
theorem itoa_pos {D : List UInt8} (h : canon D = true) : itoa (val_ 0 D : Nat) = D := by rw [itoa_nonneg, canon_dec D.length D rfl h]
theorem itoa_negc {D : List UInt8} (h : canon D = true) (h0 : D ≠ [48]) : itoa (-(val_ 0 D : Nat) : Int) = 45 :: D := by
  have h1 := canon_pos h h0
  have h2 := pw_pos (D.length - 1)
  rw [itoa_neg _ (by omega), canon_dec D.length D rfl h]
theorem tens_itoa (n : Int) : tensB (itoa n) = true := by
  by_cases hn : n < 0
  · have e : itoa n = 45 :: decDigits n.natAbs := by unfold itoa; rw [if_pos hn]
    obtain ⟨h1, h2, h3⟩ := dec_props n.natAbs
    rw [e]
    simp only [tensB]
    rw [if_pos trivial, h1, Bool.and_true]
    exact decide_eq_true (fun e => by have := h3 e; omega)
  · have e : itoa n = decDigits n.toNat := by unfold itoa; rw [if_neg hn]
    obtain ⟨h1, h2, h3⟩ := dec_props n.toNat
    rw [e]
    match hd : decDigits n.toNat, h1 with
    | [], h1 => simp [canon] at h1
    | c :: r, h1 =>
      have hc := canon_head h1
      simp only [tensB]
      rw [if_neg (by intro e; rw [e] at hc; have e45 : (45 : UInt8).toNat = 45 := rfl; omega), h1]
/-- The shape of a number written shortest. -/
theorem tens_shape {l : List UInt8} (h : tensB l = true) : ∃ D, canon D = true ∧ ((l = D ∧ ∀ r, l ≠ 45 :: r) ∨ (l = 45 :: D ∧ D ≠ [48])) := by
  match l, h with
  | [], h => simp [tensB] at h
  | c :: r, h =>
    simp only [tensB] at h
    by_cases hc : c = 45
    · rw [if_pos hc, Bool.and_eq_true, decide_eq_true_eq] at h
      exact ⟨r, h.2, Or.inr ⟨by rw [hc], h.1⟩⟩
    · rw [if_neg hc] at h
      exact ⟨c :: r, h, Or.inl ⟨rfl, fun r' e => hc (List.head_eq_of_cons_eq e)⟩⟩

theorem bt_head (w : ByteArray) {c : UInt8} {r : List UInt8} (h : w.data.toList = c :: r) : bt w 0 = (c.toNat : Int) := by
  have hsz : w.data.toList.length = w.size := by simp
  have h0 : 0 < w.size := by rw [← hsz, h]; simp
  have e := bt_nat w 0 h0
  have hg := by_at w 0 h0
  rw [h] at hg
  have hc : c = UInt8.ofNat (by_ w 0) := Option.some.inj hg
  rw [hc, UInt8.toNat_ofNat', Nat.mod_eq_of_lt (by_lt w 0)]
  exact e
theorem litN_of {l : List UInt8} {n : Int} (ha : atoiAll l = .ok n) (hi : itoa n = l) : litN l = if litOk n then some n else none := by
  unfold litN
  rw [ha]
  simp only [hi, true_and]

/-- A word is a literal alike. -/
theorem literal_is (w : ByteArray) (hs : w.size ≤ 4398046511104) (k : Nat) (hk : w.size + 3 < k) :
    depotref09_literal.f k w = some (litN w.data.toList).isSome ∧ ∀ n, litN w.data.toList = some n → depotref03_Value.f w = some n := by
  have hsz : w.data.toList.length = w.size := by simp
  have T := tens_is w hs k hk
  unfold depotref09_literal.f
  rw [T]
  simp only [Option.bind_some]
  cases ht : tensB w.data.toList with
  | false =>
    have hno : litN w.data.toList = none := by
      cases hl : litN w.data.toList with
      | none => rfl
      | some n =>
        obtain ⟨_, h2, _⟩ := litN_some hl
        have := tens_itoa n
        rw [h2, ht] at this
        cases this
    rw [hno, if_neg (by decide)]
    exact ⟨rfl, fun n h => by cases h⟩
  | true =>
    rw [if_pos rfl]
    obtain ⟨D, hD, hsh⟩ := tens_shape ht
    have hDl : 1 ≤ D.length := List.length_pos_iff.2 (canon_ne hD)
    have p10 : pw 10 = 10000000000 := rfl
    by_cases hlen : D.length ≤ 10
    · have hv := val_lt D (canon_digits hD) 0
      have hpm := pw_mono 10 hlen
      have hv2 : val_ 0 D < 10000000000 := by rw [← p10]; omega
      have fin : ∀ n, atoiAll w.data.toList = .ok n → itoa n = w.data.toList → ¬ longW w →
          ((depotref03_Value.f w).bind fun t118 => ((depotref01_Formed.f t118).bind fun t119 => (some t119))) = some (litN w.data.toList).isSome ∧ ∀ m, litN w.data.toList = some m → depotref03_Value.f w = some m := by
        intro n ha hi hl
        have hV : depotref03_Value.f w = some n := by
          unfold depotref03_Value.f
          rw [if_pos (by omega), if_neg hl, ha]
        rw [hV, litN_of ha hi]
        simp only [Option.bind_some, refFormed_is]
        cases litOk n with
        | true => exact ⟨rfl, fun m h => h⟩
        | false => exact ⟨rfl, fun m h => by cases h⟩
      rcases hsh with ⟨hl, hno⟩ | ⟨hl, h48⟩
      · refine fin (val_ 0 D : Nat) ?_ ?_ ?_
        · rw [hl]; exact atoi_pos hD (by omega)
        · rw [hl]; exact itoa_pos hD
        · rintro (h | ⟨h, _⟩) <;> (rw [← hsz, hl] at h; omega)
      · refine fin (-(val_ 0 D : Nat) : Int) ?_ ?_ ?_
        · rw [hl]; exact atoi_neg hD (by omega)
        · rw [hl]; exact itoa_negc hD h48
        · rintro (h | ⟨h, h2⟩)
          · rw [← hsz, hl, List.length_cons] at h; omega
          · exact h2 (bt_head w hl)
    · have hlong : longW w := by
        rcases hsh with ⟨hl, hno⟩ | ⟨hl, h48⟩
        · refine Or.inr ⟨by rw [← hsz, hl]; omega, ?_⟩
          match hD' : D, hl with
          | [], _ => simp at hDl
          | c :: r, hl =>
            rw [bt_head w hl]
            have hc := canon_head hD
            omega
        · exact Or.inl (by rw [← hsz, hl, List.length_cons]; omega)
      have hD48 : D ≠ [48] := by intro e; rw [e] at hlen; simp at hlen
      have hbig := canon_pos hD hD48
      have hpm : pw 10 ≤ pw (D.length - 1) := pw_mono _ (by omega)
      have hno : litN w.data.toList = none := by
        cases hl : litN w.data.toList with
        | none => rfl
        | some n =>
          obtain ⟨_, h2, h3⟩ := litN_some hl
          have h4 : n ≠ 0 ∧ -1048576 ≤ n ∧ n ≤ 1048576 := by unfold litOk at h3; exact of_decide_eq_true h3
          exfalso
          by_cases hn : n < 0
          · have e : itoa n = 45 :: decDigits n.natAbs := by unfold itoa; rw [if_pos hn]
            obtain ⟨_, d2, _⟩ := dec_props n.natAbs
            rcases hsh with ⟨hl', hno⟩ | ⟨hl', _⟩
            · exact hno _ (h2.symm.trans e)
            · have e2 : 45 :: D = 45 :: decDigits n.natAbs := by rw [← hl', ← h2, e]
              injection e2 with _ e3
              rw [← e3] at d2
              omega
          · have e : itoa n = decDigits n.toNat := by unfold itoa; rw [if_neg hn]
            obtain ⟨d1, d2, _⟩ := dec_props n.toNat
            rcases hsh with ⟨hl', _⟩ | ⟨hl', _⟩
            · have e3 : D = decDigits n.toNat := by rw [← hl', ← h2, e]
              rw [← e3] at d2
              omega
            · have e3 : 45 :: D = decDigits n.toNat := by rw [← hl', ← h2, e]
              rw [← e3] at d1
              have := canon_head d1
              have e45 : (45 : UInt8).toNat = 45 := rfl
              omega
      have hV : depotref03_Value.f w = some (if bt w 0 = 45 then -10000000000 else 10000000000) := by
        unfold depotref03_Value.f
        rw [if_pos (by omega), if_pos hlong]
      rw [hV, hno]
      simp only [Option.bind_some, refFormed_is]
      refine ⟨?_, fun n h => by cases h⟩
      split <;> rfl
end Go.Proofs.YtooojhlndlebdaaRRRDoorRRRR.R
