/- The pure law of numbers there and back: the bytes of a number are the shortest, and are taken back as it, whatever stands behind. No conditions. -/
import Derived.Test.YtooojhlndlebdaaRRRPx4
import Derived.Test.YtooojhlndlebdaaRRRPureTake
set_option linter.unusedVariables false
set_option linter.unusedSimpArgs false
namespace Go.Proofs.YtooojhlndlebdaaRRR.P
open Go.RowKit Go.Proofs.YtooojhlndlebdaaRRRW.PrintWords Go.Proofs.YtooojhlndlebdaaRRRW.PrintLast Go.Proofs.YtooojhlndlebdaaRRRW.PrintMore

theorem numF_spec (f : Nat) : ∀ n, n < 128 ^ (f + 1) → ∃ L, L ≤ f ∧ (numF (f + 1) n).length = L + 1 ∧ (∀ i, i < L → (numF (f + 1) n)[i]? = some (n / 128 ^ i % 128 + 128)) ∧
    (numF (f + 1) n)[L]? = some (n / 128 ^ L) ∧ n / 128 ^ L < 128 ∧ (0 < L → 0 < n / 128 ^ L) := by
  induction f with
  | zero =>
    intro n hn
    have h : n < 128 := by simpa using hn
    refine ⟨0, by omega, ?_⟩
    rw [numF_last _ _ (by omega)]
    simp [h]
  | succ f ih =>
    intro n hn
    by_cases h : n ≤ 127
    · refine ⟨0, by omega, ?_⟩
      rw [numF_last _ _ h]
      simp; omega
    · rw [numF_more _ _ h]
      obtain ⟨L, hL, h1, h2, h3, h4, h5⟩ := ih (n / 128) (by rw [Nat.pow_succ] at hn; exact Nat.div_lt_of_lt_mul (by omega))
      have e : ∀ i, n / 128 / 128 ^ i = n / 128 ^ (i + 1) := fun i => by rw [Nat.div_div_eq_div_mul, Nat.pow_succ, Nat.mul_comm]
      refine ⟨L + 1, by omega, by simp [h1], fun i hi => ?_, ?_, ?_, fun _ => ?_⟩
      · cases i with
        | zero => simp
        | succ i =>
          rw [List.getElem?_cons_succ, h2 i (by omega), e]
      · rw [List.getElem?_cons_succ, h3, e]
      · rw [← e]; exact h4
      · rw [← e]
        cases L with
        | zero => simp; omega
        | succ L => exact h5 (by omega)

theorem nums_get {xs : List Nat} {i v : Nat} (h : xs[i]? = some v) (ys : List Int) : rd (xs.map (fun n : Nat => (n : Int)) ++ ys) (i : Int) = (v : Int) := by
  obtain ⟨hi, rfl⟩ := List.getElem?_eq_some_iff.1 h
  rw [rd_nat (by simp; omega), List.getElem_append_left (by simpa using hi)]
  simp
theorem shr_is (i n : Nat) (hi : i ≤ 9) : shr .u64 (n : Int) (wrap64 (7 * (i : Int))) = ((n / 128 ^ i : Nat) : Int) := by
  unfold shr
  rw [w64 (by omega) (by omega), show (7 * (i : Int)).toNat = 7 * i by omega, Nat.min_eq_left (by simp [IntKind.bits]; omega), ← two_pow]
  simp

theorem mod_small (q : Nat) (h : q < 128) : (((q : Nat) : Int) % 128).toNat = q := by omega
/-- The number is taken back. -/
theorem take_back (n : Nat) (ys : List Int) (hn : n ≤ 18446744073709551615) (L : Nat) (hL : L ≤ 9) (xs : List Nat) (hx : xs.length = L + 1) (h2 : ∀ i, i < L → xs[i]? = some (n / 128 ^ i % 128 + 128)) (h3 : xs[L]? = some (n / 128 ^ L)) (h4 : n / 128 ^ L < 128) (h5 : 0 < L → 0 < n / 128 ^ L) (hl : (xs.map (fun n : Nat => (n : Int)) ++ ys).length ≤ 9223372036854775806) :
    ∀ d i k, i ≤ L → L - i = d → 2 * d + 1 < k → pack_Take.l0 k ((n % 128 ^ i : Nat) : Int) (xs.map (fun n : Nat => (n : Int)) ++ ys) ((xs.map (fun n : Nat => (n : Int)) ++ ys).length : Int) (i : Int) = some ((n : Int), ((L + 1 : Nat) : Int), 0) := by
  intro d
  induction d with
  | zero =>
    intro i k hi hd hk
    obtain rfl : i = L := by omega
    obtain ⟨k, rfl⟩ := succ_of hk
    obtain ⟨k, rfl⟩ := succ_of (d := 0) (k := k) (by omega)
    have hrd := nums_get h3 ys
    have hlen : (i : Int) < ((xs.map (fun n : Nat => (n : Int)) ++ ys).length : Int) := by simp; omega
    have h9 : i = 9 → n / 128 ^ i ≤ 1 := by
      rintro rfl
      have e : (128 : Nat) ^ 9 = 9223372036854775808 := by decide
      omega
    have hmod : n % 128 ^ i < 128 ^ i := Nat.mod_lt _ (Nat.pow_pos (by decide))
    have hsum : n % 128 ^ i + n / 128 ^ i * 128 ^ i = n := by rw [Nat.mul_comm]; exact Nat.mod_add_div _ _
    have ht := mod_small _ h4
    have e1 := Aside0.mk (step_pack i (n % 128 ^ i) ((n / 128 ^ i : Nat) : Int) (Int.natCast_nonneg _) (by have := h4; omega) hL hmod (by rw [ht, hsum]; exact hn))
    have h7 : 0 ≤ wrap64 (7 * (i : Int)) := by rw [w64 (by omega) (by omega)]; omega
    have hwi := Aside0.mk (show wrap64 ((i : Int) + 1) = ((i + 1 : Nat) : Int) by rw [w64 (by omega) (by omega)]; omega)
    have p0 : ∀ k, pack_Take.l0 (k + 1) ((n % 128 ^ i : Nat) : Int) (xs.map (fun n : Nat => (n : Int)) ++ ys) ((xs.map (fun n : Nat => (n : Int)) ++ ys).length : Int) (i : Int) = pack_Take.j1 k ((n % 128 ^ i : Nat) : Int) (i : Int) ((n / 128 ^ i : Nat) : Int) (xs.map (fun n : Nat => (n : Int)) ++ ys) ((xs.map (fun n : Nat => (n : Int)) ++ ys).length : Int) (i : Int) false := by
      intro k
      simp only [pack_Take.l0]
      rw [if_pos hlen, if_pos (by omega), if_pos hlen, hrd]
      by_cases h : (i : Int) = 9
      · rw [if_pos h]
        have : decide (((n / 128 ^ i : Nat) : Int) > 1) = false := by
          have := h9 (by omega)
          rw [decide_eq_false_iff_not]; omega
        rw [this]
      · rw [if_neg h]
    rw [p0]
    simp only [pack_Take.j1]
    rw [if_neg (by decide), if_pos h7, if_neg (by omega), e1.out, hwi.out, ht, hsum]
    by_cases h0 : ((n / 128 ^ i : Nat) : Int) = 0
    · rw [if_pos h0, if_neg (fun h => by have := h5 (by omega); omega)]
    · rw [if_neg h0]
  | succ d ih =>
    intro i k hi hd hk
    obtain ⟨k, rfl⟩ := succ_of hk
    obtain ⟨k, rfl⟩ := succ_of (d := 0) (k := k) (by omega)
    have hrd := nums_get (h2 i (by omega)) ys
    have hlen : (i : Int) < ((xs.map (fun n : Nat => (n : Int)) ++ ys).length : Int) := by simp; omega
    have hmod : n % 128 ^ i < 128 ^ i := Nat.mod_lt _ (Nat.pow_pos (by decide))
    have hsum : n % 128 ^ i + n / 128 ^ i % 128 * 128 ^ i = n % 128 ^ (i + 1) := by rw [Nat.mul_comm, Nat.mod_pow_succ]
    have hle : n % 128 ^ (i + 1) ≤ n := Nat.mod_le _ _
    generalize hv : n / 128 ^ i % 128 = v at hrd hsum
    have hv' : v < 128 := by rw [← hv]; exact Nat.mod_lt _ (by decide)
    have ht : (((v + 128 : Nat) : Int) % 128).toNat = v := by omega
    have e1 := Aside0.mk (step_pack i (n % 128 ^ i) ((v + 128 : Nat) : Int) (by omega) (by omega) (by omega) hmod (by rw [ht]; omega))
    have h7 : 0 ≤ wrap64 (7 * (i : Int)) := by rw [w64 (by omega) (by omega)]; omega
    have hwi := Aside0.mk (show wrap64 ((i : Int) + 1) = ((i + 1 : Nat) : Int) by rw [w64 (by omega) (by omega)]; omega)
    have p0 : ∀ k, pack_Take.l0 (k + 1) ((n % 128 ^ i : Nat) : Int) (xs.map (fun n : Nat => (n : Int)) ++ ys) ((xs.map (fun n : Nat => (n : Int)) ++ ys).length : Int) (i : Int) = pack_Take.j1 k ((n % 128 ^ i : Nat) : Int) (i : Int) ((v + 128 : Nat) : Int) (xs.map (fun n : Nat => (n : Int)) ++ ys) ((xs.map (fun n : Nat => (n : Int)) ++ ys).length : Int) (i : Int) false := by
      intro k
      simp only [pack_Take.l0]
      rw [if_pos hlen, if_pos (by omega), if_pos hlen, hrd, if_neg (by omega)]
    rw [p0]
    simp only [pack_Take.j1]
    rw [if_neg (by decide), if_pos h7, if_pos (by omega), e1.out, hwi.out, ht, hsum]
    exact ih (i + 1) k (by omega) (by omega) (by omega)

theorem back_l0 (n : Nat) (ys : List Int) (hn : n ≤ 18446744073709551615) (L : Nat) (hL : L ≤ 9) (xs : List Nat) (hx : xs.length = L + 1) (h2 : ∀ i, i < L → xs[i]? = some (n / 128 ^ i % 128 + 128)) (h3 : xs[L]? = some (n / 128 ^ L)) (h4 : n / 128 ^ L < 128) (h5 : 0 < L → 0 < n / 128 ^ L) (hy : ys.length ≤ 140737488355000) :
    ∀ d i k, i ≤ L → L - i = d → d + 2 * L + 8 < k → depotlaw10_PackBack.l0 k (n : Int) ys (xs.map (fun n : Nat => (n : Int))) (i : Int) = some true := by
  have hlen : ((xs.map (fun n : Nat => (n : Int))).length : Int) = ((L + 1 : Nat) : Int) := by simp [hx]
  have hlen' : (xs.map (fun n : Nat => (n : Int))).length = L + 1 := by simp [hx]
  intro d
  induction d with
  | zero =>
    intro i k hi hd hk
    obtain rfl : i = L := by omega
    obtain ⟨k, rfl⟩ := succ_of hk
    obtain ⟨k, rfl⟩ := succ_of (d := 0) (k := k) (by omega)
    obtain ⟨k, rfl⟩ := succ_of (d := 0) (k := k) (by omega)
    have hj3 : depotlaw10_PackBack.j3 (k + 1) (n : Int) ys (xs.map (fun n : Nat => (n : Int))) false = some true := by
      simp only [depotlaw10_PackBack.j3]
      rw [if_neg (by decide), copied_is _ (by omega)]
      simp only [Option.bind_some]
      rw [if_pos (by omega)]
      have ht := take_back n ys hn i hL xs hx h2 h3 h4 h5 (by simp; omega) i 0 k (by omega) (by omega) (by omega)
      have e : pack_Take.f k (xs.map (fun n : Nat => (n : Int)) ++ ys) = some ((n : Int), ((i + 1 : Nat) : Int), 0) := by
        simpa [pack_Take.f, Nat.mod_one] using ht
      rw [e]
      simp only [Option.bind_some]
      rw [if_pos trivial, if_pos hlen.symm]
      rfl
    have hj2 : depotlaw10_PackBack.j2 (k + 1 + 1) (n : Int) ys (xs.map (fun n : Nat => (n : Int))) false = some true := by
      rw [depotlaw10_PackBack.j2, if_neg (by decide), hlen]
      by_cases h10 : ((i + 1 : Nat) : Int) < 10
      · rw [if_pos h10, if_pos (by rw [w64 (by omega) (by omega)]; omega), shr_is (i + 1) n (by omega)]
        have h0 : n / 128 ^ (i + 1) = 0 := by
          rw [Nat.pow_succ, ← Nat.div_div_eq_div_mul]
          exact Nat.div_eq_of_lt h4
        rw [h0]
        exact hj3
      · rw [if_neg h10]
        exact hj3
    rw [depotlaw10_PackBack.l0, hlen, w64 (x := (i : Int) + 1) (by omega) (by omega), if_neg (by omega)]
    by_cases h1 : ((i + 1 : Nat) : Int) > 1
    · have ew : wrap64 (((i + 1 : Nat) : Int) - 1) = (i : Int) := by rw [w64 (by omega) (by omega)]; omega
      rw [if_pos h1, ew, if_pos (by rw [w64 (by omega) (by omega)]; omega), shr_is i n hL]
      have h0 := h5 (by omega)
      have : (((n / 128 ^ i : Nat) : Int) == 0) = false := by rw [beq_eq_false_iff_ne]; omega
      rw [this]
      exact hj2
    · rw [if_neg h1]
      exact hj2
  | succ d ih =>
    intro i k hi hd hk
    obtain ⟨k, rfl⟩ := succ_of hk
    have hrd := nums_get (h2 i (by omega)) []
    rw [List.append_nil] at hrd
    rw [depotlaw10_PackBack.l0, hlen, hrd, w64 (x := (i : Int) + 1) (by omega) (by omega), if_pos (by omega), if_pos (by omega), if_pos (by omega), if_neg (by omega)]
    exact ih (i + 1) k (by omega) (by omega) (by omega)

/-- The statement PackBack, over lists and numbers. -/
theorem packBack_pure (n : Nat) (l : List Int) (hn : n ≤ 18446744073709551615) (hl : l.length ≤ 140737488355000) : ∃ k, depotlaw10_PackBack.f k (n : Int) l = some true := by
  obtain ⟨L, hL, h1, h2, h3, h4, h5⟩ := numF_spec 9 n (pow128_10 n hn)
  refine ⟨100, ?_⟩
  have hlen : (((numF 10 n).map (fun n : Nat => (n : Int))).length : Int) = ((L + 1 : Nat) : Int) := by simp [h1]
  have hrd := nums_get h3 []
  rw [List.append_nil] at hrd
  unfold depotlaw10_PackBack.f
  rw [number_is n hn]
  simp only [Option.bind_some]
  have ew : wrap64 (((L + 1 : Nat) : Int) - 1) = (L : Int) := by rw [w64 (by omega) (by omega)]; omega
  rw [hlen, if_neg (by omega), if_neg (by omega), ew, if_pos (by omega), if_pos (by omega), hrd]
  have : decide (((n / 128 ^ L : Nat) : Int) > 127) = false := by rw [decide_eq_false_iff_not]; omega
  rw [this, depotlaw10_PackBack.j0, if_neg (by decide)]
  exact back_l0 n l hn L hL _ h1 h2 h3 h4 h5 hl L 0 _ (by omega) (by omega) (by omega)

end Go.Proofs.YtooojhlndlebdaaRRR.P
