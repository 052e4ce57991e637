/- The pure laws of numbers: the bytes of a number, and what is taken of bytes, by the program and by the reference. No conditions. -/
import Derived.Test.YtooojhlndlebdaaRRRPx3
import Derived.Test.YtooojhlndlebdaaRRRBase
set_option linter.unusedVariables false
set_option linter.unusedSimpArgs false
namespace Go.Proofs.YtooojhlndlebdaaRRR.P
open Go.RowKit Go.Proofs.YtooojhlndlebdaaRRRW.PrintWords Go.Proofs.YtooojhlndlebdaaRRRW.PrintLast Go.Proofs.YtooojhlndlebdaaRRRW.PrintMore

theorem copied_is (l : List Int) (h : l.length < 140737488355328) : depotlaw10_copied.f l = some l := by
  unfold depotlaw10_copied.f
  rw [if_pos (by simpa using h)]
  rfl

theorem same_l0 (l : List Int) (hl : l.length ≤ 9223372036854775806) (d : Nat) : ∀ (k i : Nat), i ≤ l.length → l.length - i = d → d < k → depotlaw10_same.l0 k l l (i : Int) = some true := by
  induction d with
  | zero =>
    intro k i h0 hd hk
    obtain ⟨k, rfl⟩ := succ_of hk
    simp only [depotlaw10_same.l0]
    rw [if_neg (by omega)]
  | succ d ih =>
    intro k i h0 hd hk
    obtain ⟨k, rfl⟩ := succ_of hk
    simp only [depotlaw10_same.l0]
    rw [if_pos (by omega), if_pos (by omega), if_pos (by omega), if_pos (by trivial), w64 (by omega) (by omega)]
    exact ih k (i + 1) (by omega) (by omega) (by omega)
theorem same_is (l : List Int) (hl : l.length ≤ 9223372036854775806) (k : Nat) (hk : l.length < k) : depotlaw10_same.f k l l = some true := by
  unfold depotlaw10_same.f
  rw [if_pos rfl]
  exact same_l0 l hl l.length k 0 (by omega) (by omega) hk

theorem numF_length (f : Nat) : ∀ n, (numF f n).length ≤ f := by
  induction f with
  | zero => intro n; simp [numF]
  | succ f ih =>
    intro n
    unfold numF
    split
    · simp
    · have := ih (n / 128)
      simp; omega

theorem refNumber_l0 (f : Nat) : ∀ (k n : Nat) (ys : List Int), n < 128 ^ (f + 1) → n ≤ 18446744073709551615 → ys.length + f + 1 < 140737488355328 → f < k →
    depotref10_Number.l0 k (n : Int) ys = some (ys ++ (numF (f + 1) n).map fun n : Nat => (n : Int)) := by
  induction f with
  | zero =>
    intro k n ys hn hm hl hk
    obtain ⟨k, rfl⟩ := succ_of hk
    simp only [depotref10_Number.l0]
    have h : n < 128 := by simpa using hn
    rw [if_neg (by omega), if_pos (by omega), numF_last _ _ (by omega)]
    have : (n : Int) % 256 = n := by omega
    rw [this]
    rfl
  | succ f ih =>
    intro k n ys hn hm hl hk
    obtain ⟨k, rfl⟩ := succ_of hk
    simp only [depotref10_Number.l0]
    by_cases h : n ≤ 127
    · rw [if_neg (by omega), if_pos (by omega), numF_last _ _ h]
      have : (n : Int) % 256 = n := by omega
      rw [this]
      rfl
    · rw [if_pos (by omega), if_pos (by omega), numF_more _ _ h]
      have e1 : IntKind.u64.wrap (Int.tdiv (n : Int) 128) = ((n / 128 : Nat) : Int) := by
        rw [Int.tdiv_eq_ediv_of_nonneg (by omega), wu64 (by omega) (by omega)]
        rfl
      have e2 : (Int.tmod (n : Int) 128 + 128) % 256 = ((n % 128 + 128 : Nat) : Int) := by
        rw [Int.tmod_eq_emod_of_nonneg (by omega)]
        omega
      rw [e1, e2, ih k (n / 128) _ (by rw [Nat.pow_succ] at hn; exact Nat.div_lt_of_lt_mul (by omega)) (by omega) (by simp; omega) (by omega)]
      simp

theorem pow128_10 (n : Nat) (h : n ≤ 18446744073709551615) : n < 128 ^ (9 + 1) := by
  have : (128 : Nat) ^ 10 = 1180591620717411303424 := by decide
  omega

theorem refNumber_is (n : Nat) (hn : n ≤ 18446744073709551615) (k : Nat) (hk : 9 < k) : depotref10_Number.f k (n : Int) = some ((numF 10 n).map fun n : Nat => (n : Int)) := by
  unfold depotref10_Number.f
  rw [refNumber_l0 9 k n [] (pow128_10 n hn) hn (by simp) hk]
  rfl
theorem number_is (n : Nat) (hn : n ≤ 18446744073709551615) : pack_Number.f (n : Int) = some ((numF 10 n).map fun n : Nat => (n : Int)) := by
  unfold pack_Number.f
  rw [if_pos (by omega)]
  rfl

/-! ### what is taken -/
theorem wraps_u64 (n : Int) (h₀ : 0 ≤ n) (h₁ : n < 2 ^ 64) : IntKind.u64.wrap n = n := wu64 h₀ (by omega)
theorem two_pow (i : Nat) : (2 : Nat) ^ (7 * i) = 128 ^ i := by rw [Nat.pow_mul]
theorem shl_is (i v : Nat) (hi : i ≤ 9) (hv : v * 128 ^ i ≤ 18446744073709551615) : shl .u64 (v : Int) (wrap64 (7 * (i : Int))) = ((v * 128 ^ i : Nat) : Int) := by
  unfold shl
  rw [w64 (by omega) (by omega), show (7 * (i : Int)).toNat = 7 * i by omega, Nat.min_eq_left (by simp [IntKind.bits]; omega)]
  have e : (v : Int) * 2 ^ (7 * i) = ((v * 128 ^ i : Nat) : Int) := by
    rw [← two_pow]; simp
  rw [e, wu64 (by omega) (by omega)]
theorem or_is (i n v : Nat) (hi : i ≤ 9) (hn : n < 128 ^ i) (hv : n + v * 128 ^ i ≤ 18446744073709551615) : Go.bits .or .u64 (n : Int) (shl .u64 (v : Int) (wrap64 (7 * (i : Int)))) = ((n + v * 128 ^ i : Nat) : Int) := by
  rw [shl_is i v hi (by omega), (bits_nat .u64 64 (by decide) wraps_u64 n (v * 128 ^ i) (by omega) (by omega)).2]
  have h := Nat.two_pow_add_eq_or_of_lt (i := 7 * i) (b := n) (by rw [two_pow]; exact hn) v
  rw [two_pow] at h
  rw [Nat.or_comm, Nat.mul_comm v, ← h, Nat.add_comm]
theorem and127 (x : Int) (h0 : 0 ≤ x) (h1 : x ≤ 255) : Go.bits .and .u8 x 127 = x % 128 := bits_mask .u8 8 (by decide) wraps_u8 7 (by decide) x h0 (by omega)

/-- What one byte more makes of the number, in the program. -/
theorem step_pack (i n : Nat) (x : Int) (h0 : 0 ≤ x) (h1 : x ≤ 255) (hi : i ≤ 9) (hn : n < 128 ^ i) (hv : n + (x % 128).toNat * 128 ^ i ≤ 18446744073709551615) :
    Go.bits .or .u64 (n : Int) (shl .u64 (IntKind.u64.wrap (Go.bits .and .u8 x 127)) (wrap64 (7 * (i : Int)))) = ((n + (x % 128).toNat * 128 ^ i : Nat) : Int) := by
  rw [and127 x h0 h1, wu64 (by omega) (by omega)]
  have e : x % 128 = (((x % 128).toNat : Nat) : Int) := by omega
  rw [e, or_is i n _ hi hn hv]
  simp
/-- The same in the reference. -/
theorem step_ref (i n : Nat) (x : Int) (h0 : 0 ≤ x) (hv : n + (x % 128).toNat * 128 ^ i ≤ 18446744073709551615) :
    IntKind.u64.wrap ((n : Int) + (IntKind.u64.wrap ((IntKind.u64.wrap (Int.tmod x 128)) * ((128 ^ i : Nat) : Int)))) = ((n + (x % 128).toNat * 128 ^ i : Nat) : Int) := by
  rw [Int.tmod_eq_emod_of_nonneg h0, wu64 (x := x % 128) (by omega) (by omega)]
  have e : x % 128 * ((128 ^ i : Nat) : Int) = (((x % 128).toNat * 128 ^ i : Nat) : Int) := by
    have e : x % 128 = (((x % 128).toNat : Nat) : Int) := by omega
    rw [Int.natCast_mul, ← e]
  rw [e]
  generalize (x % 128).toNat * 128 ^ i = m at hv
  rw [wu64 (x := (m : Int)) (by omega) (by omega), ← Int.natCast_add, wu64 (by omega) (by omega)]

theorem pow_le (i : Nat) (hi : i ≤ 8) : 128 ^ i ≤ 72057594037927936 := by
  have h : (128 : Nat) ^ i ≤ 128 ^ 8 := Nat.pow_le_pow_right (by decide) hi
  have e : (128 : Nat) ^ 8 = 72057594037927936 := by decide
  omega

theorem room9 (i n : Nat) (x : Int) (hi : i ≤ 9) (h0 : 0 ≤ x) (h1 : x ≤ 255) (h9 : i = 9 → x ≤ 1) (hn : n < 128 ^ i) : n + (x % 128).toNat * 128 ^ i ≤ 18446744073709551615 := by
  rcases Nat.lt_or_ge i 9 with h | h
  · have hp := pow_le i (by omega)
    have h2 : (x % 128).toNat * 128 ^ i ≤ 127 * 128 ^ i := Nat.mul_le_mul_right _ (by omega)
    omega
  · obtain rfl : i = 9 := by omega
    have e : (128 : Nat) ^ 9 = 9223372036854775808 := by decide
    have h2 : (x % 128).toNat * 128 ^ 9 ≤ 1 * 128 ^ 9 := Nat.mul_le_mul_right _ (by have := h9 rfl; omega)
    omega

/-- Both tell the same of what is left of the bytes, n being the number so far. -/
theorem take_both (l : List Int) (hw : ∀ x ∈ l, (Lit.int .u8 x).wf = true) (hl : l.length ≤ 140737488355328) (d : Nat) : ∀ (i n : Nat), i ≤ l.length → l.length - i = d → i ≤ 9 → n < 128 ^ i →
    ∃ r, (∀ k, 2 * d < k → pack_Take.l0 k (n : Int) l (l.length : Int) (i : Int) = some r) ∧ (∀ k, 2 * d < k → depotref10_Take.l0 k l (n : Int) ((128 ^ i : Nat) : Int) (i : Int) = some r) := by
  induction d with
  | zero =>
    intro i n h0 hd hi hn
    refine ⟨(0, 0, 33), fun k hk => ?_, fun k hk => ?_⟩
    · obtain ⟨k, rfl⟩ := succ_of hk
      simp only [pack_Take.l0]
      rw [if_neg (by omega)]
    · obtain ⟨k, rfl⟩ := succ_of hk
      simp only [depotref10_Take.l0]
      rw [if_neg (by omega)]
  | succ d ih =>
    intro i n h0 hd hi hn
    have hlt : i < l.length := by omega
    obtain ⟨hx0, hx1⟩ := wf_u8 (hw _ (List.getElem_mem hlt))
    have hrd := rd_nat hlt
    generalize hx : l[i] = x at hrd hx0 hx1
    by_cases h9 : i = 9 ∧ 1 < x
    · refine ⟨(0, 0, 101), fun k hk => ?_, fun k hk => ?_⟩
      · obtain ⟨k, rfl⟩ := succ_of hk
        obtain ⟨k, rfl⟩ := succ_of (d := 0) (k := k) (by omega)
        simp only [pack_Take.l0]
        rw [if_pos (by omega), if_pos (by omega), if_pos (by omega), if_pos (by omega), hrd]
        simp only [pack_Take.j1]
        rw [if_pos (by simp; omega)]
      · obtain ⟨k, rfl⟩ := succ_of hk
        obtain ⟨k, rfl⟩ := succ_of (d := 0) (k := k) (by omega)
        simp only [depotref10_Take.l0]
        rw [if_pos (by omega), if_pos (by omega), if_pos (by omega), hrd]
        simp only [depotref10_Take.j1]
        rw [if_pos (by simp; omega)]
    · have hv := room9 i n x hi hx0 hx1 (by omega) hn
      have hflag : (i : Int) = 9 → decide (x > 1) = false := fun h => by simp; omega
      have e1 := Aside0.mk (step_pack i n x hx0 hx1 hi hn hv)
      have e2 := Aside0.mk (step_ref i n x hx0 hv)
      have h7 : 0 ≤ wrap64 (7 * (i : Int)) := by rw [w64 (by omega) (by omega)]; omega
      have hwi := Aside0.mk (show wrap64 ((i : Int) + 1) = ((i + 1 : Nat) : Int) by rw [w64 (by omega) (by omega)]; omega)
      have p0 : ∀ k, pack_Take.l0 (k + 1) (n : Int) l (l.length : Int) (i : Int) = pack_Take.j1 k (n : Int) (i : Int) x l (l.length : Int) (i : Int) false := by
        intro k
        simp only [pack_Take.l0]
        rw [if_pos (by omega), if_pos (by omega), if_pos (by omega), hrd]
        by_cases h : (i : Int) = 9
        · rw [if_pos h, hflag h]
        · rw [if_neg h]
      have q0 : ∀ k, depotref10_Take.l0 (k + 1) l (n : Int) ((128 ^ i : Nat) : Int) (i : Int) = depotref10_Take.j1 k l (n : Int) ((128 ^ i : Nat) : Int) (i : Int) false := by
        intro k
        simp only [depotref10_Take.l0]
        rw [if_pos (by omega)]
        by_cases h : (i : Int) = 9
        · rw [if_pos h, if_pos (by omega), hrd, hflag h]
        · rw [if_neg h]
      by_cases h128 : 127 < x
      · have hi8 : i ≤ 8 := by omega
        have hn' : n + (x % 128).toNat * 128 ^ i < 128 ^ (i + 1) := by
          rw [Nat.pow_succ]
          have h2 : (x % 128).toNat * 128 ^ i ≤ 127 * 128 ^ i := Nat.mul_le_mul_right _ (by omega)
          omega
        obtain ⟨r, hr1, hr2⟩ := ih (i + 1) (n + (x % 128).toNat * 128 ^ i) (by omega) (by omega) (by omega) hn'
        have ht : IntKind.u64.wrap (((128 ^ i : Nat) : Int) * 128) = ((128 ^ (i + 1) : Nat) : Int) := by
          have hp := pow_le i hi8
          rw [wu64 (by omega) (by omega), Nat.pow_succ]
          simp
        refine ⟨r, fun k hk => ?_, fun k hk => ?_⟩
        · obtain ⟨k, rfl⟩ := succ_of hk
          obtain ⟨k, rfl⟩ := succ_of (d := 0) (k := k) (by omega)
          rw [p0]
          simp only [pack_Take.j1]
          rw [if_neg (by decide), if_pos h7, if_pos (by omega), e1.out, hwi.out]
          exact hr1 k (by omega)
        · obtain ⟨k, rfl⟩ := succ_of hk
          obtain ⟨k, rfl⟩ := succ_of (d := 0) (k := k) (by omega)
          rw [q0]
          simp only [depotref10_Take.j1]
          rw [if_neg (by decide), if_pos (by omega), if_pos (by omega), hrd, if_neg (by omega), e2.out, ht, hwi.out]
          exact hr2 k (by omega)
      · by_cases h00 : x = 0 ∧ 0 < i
        · refine ⟨(0, 0, 101), fun k hk => ?_, fun k hk => ?_⟩
          · obtain ⟨k, rfl⟩ := succ_of hk
            obtain ⟨k, rfl⟩ := succ_of (d := 0) (k := k) (by omega)
            rw [p0]
            simp only [pack_Take.j1]
            rw [if_neg (by decide), if_pos h7, if_neg (by omega), if_pos (by omega), if_pos (by omega)]
          · obtain ⟨k, rfl⟩ := succ_of hk
            obtain ⟨k, rfl⟩ := succ_of (d := 0) (k := k) (by omega)
            rw [q0]
            simp only [depotref10_Take.j1]
            rw [if_neg (by decide), if_pos (by omega), if_pos (by omega), hrd, if_pos (by omega), if_pos (by omega), if_pos (by omega)]
        · refine ⟨(((n + (x % 128).toNat * 128 ^ i : Nat) : Int), ((i + 1 : Nat) : Int), 0), fun k hk => ?_, fun k hk => ?_⟩
          · obtain ⟨k, rfl⟩ := succ_of hk
            obtain ⟨k, rfl⟩ := succ_of (d := 0) (k := k) (by omega)
            rw [p0]
            simp only [pack_Take.j1]
            rw [if_neg (by decide), if_pos h7, if_neg (by omega), e1.out, hwi.out]
            by_cases hx : x = 0
            · rw [if_pos hx, if_neg (by omega)]
            · rw [if_neg hx]
          · obtain ⟨k, rfl⟩ := succ_of hk
            obtain ⟨k, rfl⟩ := succ_of (d := 0) (k := k) (by omega)
            rw [q0]
            simp only [depotref10_Take.j1]
            rw [if_neg (by decide), if_pos (by omega), if_pos (by omega), hrd, if_pos (by omega), e2.out, hwi.out]
            by_cases hx : x = 0
            · rw [if_pos hx, if_neg (by omega)]
            · rw [if_neg hx]

/-- The statement PackTakes, over lists and numbers. -/
theorem packTakes_pure (n : Nat) (l : List Int) (hn : n ≤ 18446744073709551615) (hl : l.length < 140737488355328) (hw : ∀ x ∈ l, (Lit.int .u8 x).wf = true) : ∃ k, depotlaw10_PackTakes.f k (n : Int) l = some true := by
  obtain ⟨r, h1, h2⟩ := take_both l hw (by omega) l.length 0 0 (by omega) (by omega) (by omega) (by simp)
  refine ⟨2 * l.length + 20, ?_⟩
  have h1 := h1 (2 * l.length + 20) (by omega)
  have h2 := h2 (2 * l.length + 20) (by omega)
  unfold depotlaw10_PackTakes.f
  rw [number_is n hn, copied_is l hl, refNumber_is n hn _ (by omega)]
  simp only [Option.bind_some]
  have e1 : pack_Take.f (2 * l.length + 20) l = some r := h1
  have e2 : depotref10_Take.f (2 * l.length + 20) l = some r := h2
  have h3 := numF_length 10 n
  rw [e1, e2]
  simp only [Option.bind_some]
  rw [same_is _ (by simp; omega) _ (by simp; omega)]
  simp

end Go.Proofs.YtooojhlndlebdaaRRR.P
