/- The pure law of EncodeDecodes: the program's and the reference's Decode tell the same of every table and all truths. No conditions. -/
import Derived.Test.YtooojhlndlebdaaRRRPx2
import Derived.Test.YtooojhlndlebdaaRRRBase
set_option linter.unusedVariables false
set_option linter.unusedSimpArgs false
namespace Go.Proofs.YtooojhlndlebdaaRRR.P
open Go.RowKit Go.Proofs.YtooojhlndlebdaaRRRW.PrintWords Go.Proofs.YtooojhlndlebdaaRRRW.PrintLast Go.Proofs.YtooojhlndlebdaaRRRW.PrintMore

theorem copyBools_l0 (l : List Bool) (hl : l.length < 140737488355328) (d : Nat) : ∀ (k i : Nat), i ≤ l.length → l.length - i = d → d < k → depotref00_CopyBools.l0 k l (l.take i) (i : Int) = some l := by
  induction d with
  | zero =>
    intro k i h0 hd hk
    obtain ⟨k, rfl⟩ := succ_of hk
    rw [depotref00_CopyBools.l0, if_neg (by omega), List.take_of_length_le (by omega)]
  | succ d ih =>
    intro k i h0 hd hk
    obtain ⟨k, rfl⟩ := succ_of hk
    rw [depotref00_CopyBools.l0, if_pos (by omega), if_pos (by omega), if_pos (by rw [List.length_take]; omega), rdOf_nat (by omega), ← take_succ' (by omega), w64 (by omega) (by omega)]
    exact ih k (i + 1) (by omega) (by omega) (by omega)
theorem copyBools_is (l : List Bool) (hl : l.length < 140737488355328) (k : Nat) (hk : l.length < k) : depotref00_CopyBools.f k l = some l := by
  unfold depotref00_CopyBools.f
  exact copyBools_l0 l hl l.length k 0 (by omega) (by omega) hk

theorem sameInts_l0 (l : List Int) (hl : l.length ≤ 9223372036854775806) (d : Nat) : ∀ (k i : Nat), i ≤ l.length → l.length - i = d → d < k → depotref00_SameInts.l0 k l l (i : Int) = some true := by
  induction d with
  | zero =>
    intro k i h0 hd hk
    obtain ⟨k, rfl⟩ := succ_of hk
    rw [depotref00_SameInts.l0, if_neg (by omega)]
  | succ d ih =>
    intro k i h0 hd hk
    obtain ⟨k, rfl⟩ := succ_of hk
    rw [depotref00_SameInts.l0, if_pos (by omega), if_pos (by omega), if_pos (by omega), if_pos rfl, w64 (by omega) (by omega)]
    exact ih k (i + 1) (by omega) (by omega) (by omega)
theorem sameInts_is (l : List Int) (hl : l.length ≤ 9223372036854775806) (k : Nat) (hk : l.length < k) : depotref00_SameInts.f k l l = some true := by
  unfold depotref00_SameInts.f
  rw [if_pos rfl]
  exact sameInts_l0 l hl l.length k 0 (by omega) (by omega) hk

/-- Both loops tell the same. -/
theorem decode_both (l : List Bool) (P : Nat) (V : Int) (O : List S73) (hP : P ≤ l.length) (hP' : P ≤ 1048576) (d : Nat) : ∀ (i : Nat) (acc : List Int), i ≤ P → P - i = d → acc.length ≤ i →
    ∃ r : List Int, r.length ≤ P ∧ (∀ k, d < k → encode_Decode.l0 k l acc (P : Int) (i : Int) = some (r, 0)) ∧ (∀ k, d < k → depotref28_Decode.l0 k l acc (i : Int) (P : Int) V O = some (r, 0)) := by
  induction d with
  | zero =>
    intro i acc h0 hd ha
    refine ⟨acc, by omega, fun k hk => ?_, fun k hk => ?_⟩
    · obtain ⟨k, rfl⟩ := succ_of hk
      rw [encode_Decode.l0, if_neg (by omega)]
    · obtain ⟨k, rfl⟩ := succ_of hk
      rw [depotref28_Decode.l0, if_neg (by omega)]
  | succ d ih =>
    intro i acc h0 hd ha
    have hrd := rdOf_nat (z := false) (xs := l) (n := i) (by omega)
    have hwi : wrap64 ((i : Int) + 1) = ((i + 1 : Nat) : Int) := by rw [w64 (by omega) (by omega)]; omega
    cases hb : l[i]'(by omega) with
    | true =>
      rw [hb] at hrd
      obtain ⟨r, hr, h1, h2⟩ := ih (i + 1) (acc ++ [(i : Int)]) (by omega) (by omega) (by simp; omega)
      refine ⟨r, hr, fun k hk => ?_, fun k hk => ?_⟩
      · obtain ⟨k, rfl⟩ := succ_of hk
        rw [encode_Decode.l0, if_pos (by omega), if_pos (by omega), if_pos (by omega), if_pos hrd, if_pos (by omega), hwi]
        exact h1 k (by omega)
      · obtain ⟨k, rfl⟩ := succ_of hk
        rw [depotref28_Decode.l0, if_pos (by omega), if_pos (by omega), if_pos (by omega), if_pos hrd, if_pos (by omega), hwi]
        exact h2 k (by omega)
    | false =>
      rw [hb] at hrd
      obtain ⟨r, hr, h1, h2⟩ := ih (i + 1) acc (by omega) (by omega) (by omega)
      refine ⟨r, hr, fun k hk => ?_, fun k hk => ?_⟩
      · obtain ⟨k, rfl⟩ := succ_of hk
        rw [encode_Decode.l0, if_pos (by omega), if_pos (by omega), if_pos (by omega), if_neg (by rw [hrd]; decide), hwi]
        exact h1 k (by omega)
      · obtain ⟨k, rfl⟩ := succ_of hk
        rw [depotref28_Decode.l0, if_pos (by omega), if_pos (by omega), if_pos (by omega), if_neg (by rw [hrd]; decide), hwi]
        exact h2 k (by omega)

theorem decode_same (a0 a1 : Int) (O : List S73) (l : List Bool) : ∃ r : List Int × Int, r.1.length ≤ 1048576 ∧ ∃ K, (∀ k, K < k → encode_Decode.f k a0 a1 O l = some r) ∧ (∀ k, K < k → depotref28_Decode.f k a0 a1 O l = some r) := by
  have bad : ∀ k, 0 < k → encode_Decode.j0 k l true a0 a1 O = some ([], 1) ∧ depotref28_Decode.j0 k l true a0 a1 O = some ([], 1) := fun k hk => by
    obtain ⟨k, rfl⟩ := succ_of hk
    rw [encode_Decode.j0, depotref28_Decode.j0, if_pos rfl, if_pos rfl]
    exact ⟨rfl, rfl⟩
  by_cases h1 : a1 < 0
  · refine ⟨([], 1), by simp, 0, fun k hk => ?_, fun k hk => ?_⟩
    · rw [encode_Decode.f, if_pos h1]; exact (bad k hk).1
    · rw [depotref28_Decode.f, if_pos h1]; exact (bad k hk).2
  by_cases h2 : a1 > 1048576
  · refine ⟨([], 1), by simp, 0, fun k hk => ?_, fun k hk => ?_⟩
    · rw [encode_Decode.f, if_neg h1, if_pos h2]; exact (bad k hk).1
    · rw [depotref28_Decode.f, if_neg h1, if_pos h2]; exact (bad k hk).2
  by_cases h3 : a0 < 0
  · refine ⟨([], 1), by simp, 0, fun k hk => ?_, fun k hk => ?_⟩
    · rw [encode_Decode.f, if_neg h1, if_neg h2, if_pos h3]; exact (bad k hk).1
    · rw [depotref28_Decode.f, if_neg h1, if_neg h2, if_pos h3]; exact (bad k hk).2
  by_cases h4 : a0 > a1
  · refine ⟨([], 1), by simp, 0, fun k hk => ?_, fun k hk => ?_⟩
    · rw [encode_Decode.f, if_neg h1, if_neg h2, if_neg h3, decide_eq_true h4]; exact (bad k hk).1
    · rw [depotref28_Decode.f, if_neg h1, if_neg h2, if_neg h3, decide_eq_true h4]; exact (bad k hk).2
  by_cases h5 : (l.length : Int) = a1
  · obtain ⟨P, rfl⟩ := nat_of (x := a0) (by omega)
    obtain ⟨r, hr, e1, e2⟩ := decode_both l P a1 O (by omega) (by omega) P 0 [] (by omega) (by omega) (by simp)
    refine ⟨(r, 0), by simp; omega, P + 1, fun k hk => ?_, fun k hk => ?_⟩
    · obtain ⟨k, rfl⟩ := succ_of hk
      rw [encode_Decode.f, if_neg h1, if_neg h2, if_neg h3, decide_eq_false h4, encode_Decode.j0, if_neg (by decide), if_pos h5]
      exact e1 k (by omega)
    · obtain ⟨k, rfl⟩ := succ_of hk
      rw [depotref28_Decode.f, if_neg h1, if_neg h2, if_neg h3, decide_eq_false h4, depotref28_Decode.j0, if_neg (by decide), if_pos h5]
      exact e2 k (by omega)
  · refine ⟨([], 280), by simp, 0, fun k hk => ?_, fun k hk => ?_⟩
    · obtain ⟨k, rfl⟩ := succ_of hk
      rw [encode_Decode.f, if_neg h1, if_neg h2, if_neg h3, decide_eq_false h4, encode_Decode.j0, if_neg (by decide), if_neg h5]
    · obtain ⟨k, rfl⟩ := succ_of hk
      rw [depotref28_Decode.f, if_neg h1, if_neg h2, if_neg h3, decide_eq_false h4, depotref28_Decode.j0, if_neg (by decide), if_neg h5]

/-- The statement EncodeDecodes, over lists and numbers. -/
theorem encodeDecodes_pure (a0 a1 : Int) (O : List S73) (l : List Bool) (hl : l.length < 140737488355328) : ∃ k, depotlaw28_EncodeDecodes.f k a0 a1 O l = some true := by
  obtain ⟨r, hr, K, h1, h2⟩ := decode_same a0 a1 O l
  refine ⟨K + l.length + 1048600, ?_⟩
  rw [depotlaw28_EncodeDecodes.f, copyBools_is l hl _ (by omega)]
  simp only [Option.bind_some]
  rw [h1 _ (by omega)]
  simp only [Option.bind_some]
  rw [h2 _ (by omega)]
  simp only [Option.bind_some]
  rw [if_pos trivial, sameInts_is _ (by omega) _ (by omega)]
  rfl

end Go.Proofs.YtooojhlndlebdaaRRR.P
