/- The pure law DimacsReads: the program's reading is the reference's. No conditions. -/
import Derived.Test.YtejdjmcdlbcmeaaDoorReadRef
import Derived.KernelRfl
set_option linter.unusedVariables false
set_option linter.unusedSimpArgs false
namespace Go.Proofs.YtejdjmcdlbcmeaaDoor.U
open Go.Proofs.YtejdjmcdlbcmeaaDoor.R Go.RowKit Go.Lib Go.Proofs.YtejdjmcdlbcmeaaDoorW.PrintWords Go.Proofs.YtejdjmcdlbcmeaaDoorW.PrintLast Go.Proofs.YtejdjmcdlbcmeaaDoorW.PrintMore

theorem rd_natu {xs : List Int} {n : Nat} (h : n < xs.length) : rd xs (n : Int) = xs[n] := by
  unfold rd
  rw [Int.toNat_natCast, List.getD_eq_getElem?_getD, List.getElem?_eq_getElem h]
  rfl
theorem rdL1_nat {xs : List (List Int)} {n : Nat} (h : n < xs.length) : rd_L1 xs (n : Int) = xs[n] := by
  unfold rd_L1
  rw [Int.toNat_natCast, List.getD_eq_getElem?_getD, List.getElem?_eq_getElem h]
  rfl
theorem sameInts_l0 (l : List Int) (hl : l.length ≤ 4398046511104) (d : Nat) : ∀ (k i : Nat), i ≤ l.length → l.length - i = d → d < k → depotref00_SameInts.l0 k l l (i : Int) = some true := by
  induction d with
  | zero =>
    intro k i h0 hd hk
    obtain ⟨k, rfl⟩ := succ_ofr hk
    rw [depotref00_SameInts.l0, if_neg (by omega)]
  | succ d ih =>
    intro k i h0 hd hk
    obtain ⟨k, rfl⟩ := succ_ofr hk
    rw [depotref00_SameInts.l0, if_pos (by omega), if_pos (by omega), if_pos (by omega), if_pos rfl, w64r (by omega) (by omega)]
    exact ih k (i + 1) (by omega) (by omega) (by omega)
theorem sameInts_self (l : List Int) (hl : l.length ≤ 4398046511104) (k : Nat) (hk : l.length < k) : depotref00_SameInts.f k l l = some true := by
  unfold depotref00_SameInts.f
  rw [if_pos rfl]
  exact sameInts_l0 l hl l.length k 0 (by omega) (by omega) hk
theorem sameClauses_l0 (l : List (List Int)) (m : Nat) (hm : ∀ c ∈ l, c.length ≤ m) (hm2 : m ≤ 4398046511104) (hl : l.length < 4398046511104) (d : Nat) : ∀ (k i : Nat), i ≤ l.length → l.length - i = d → d + m + 1 < k → depotref00_SameClauses.l0 k l l (i : Int) = some true := by
  induction d with
  | zero =>
    intro k i h0 hd hk
    obtain ⟨k, rfl⟩ := succ_ofr hk
    rw [depotref00_SameClauses.l0, if_neg (by omega)]
  | succ d ih =>
    intro k i h0 hd hk
    obtain ⟨k, rfl⟩ := succ_ofr hk
    have hs := hm l[i] (List.getElem_mem (by omega))
    rw [depotref00_SameClauses.l0, if_pos (by omega), if_pos (by omega), if_pos (by omega), rdL1_nat (by omega), sameInts_self _ (by omega) _ (by omega)]
    simp only [Option.bind_some]
    rw [if_pos trivial, w64r (by omega) (by omega)]
    exact ih k (i + 1) (by omega) (by omega) (by omega)
theorem sameFormula_self (v : Int) (l : List (List Int)) (m : Nat) (hm : ∀ c ∈ l, c.length ≤ m) (hm2 : m ≤ 4398046511104) (hl : l.length < 4398046511104) (k : Nat) (hk : l.length + m + 1 < k) : depotref00_SameFormula.f k v l v l = some true := by
  unfold depotref00_SameFormula.f depotref00_SameClauses.f
  have := sameClauses_l0 l m hm hm2 hl l.length k 0 (by omega) (by omega) hk
  rw [if_pos rfl, if_pos rfl, show (0 : Int) = ((0 : Nat) : Int) from rfl, this]
  rfl
theorem body_bound (T N : Nat) : ∀ (l : List S73) (st : FSt), st.opn.length + l.length ≤ N → (∀ c ∈ st.cls, c.length ≤ N) → (bodyD T l st).2.1.length ≤ st.cls.length + l.length ∧ ∀ c ∈ (bodyD T l st).2.1, c.length ≤ N := by
  intro l
  induction l with
  | nil =>
    intro st h1 h2
    have e : bodyD T [] st = if endD st = 0 then (st.vars, st.cls, 0, 0) else (0, [], endD st, ((T + 1 : Nat) : Int)) := rfl
    rw [e]
    split
    · exact ⟨Nat.le_refl _, h2⟩
    · exact ⟨Nat.zero_le _, fun c hc => by cases hc⟩
  | cons w r ih =>
    intro st h1 h2
    rw [List.length_cons] at h1 ⊢
    have e : bodyD T (w :: r) st = if (wordD st w.f0).2 = 0 then bodyD T r (wordD st w.f0).1 else (0, [], (wordD st w.f0).2, w.f1) := rfl
    rw [e]
    split
    · have hw : ((wordD st w.f0).1 = st ∨ (wordD st w.f0).1 = ⟨st.headed, st.count, st.vars, st.cls ++ [st.opn], []⟩ ∨ ∃ x, (wordD st w.f0).1 = ⟨st.headed, st.count, st.vars, st.cls, st.opn ++ [x]⟩) := by
        unfold wordD
        split
        · exact Or.inl rfl
        · split
          · exact Or.inr (Or.inl rfl)
          · split
            · exact Or.inr (Or.inr ⟨_, rfl⟩)
            · exact Or.inl rfl
      rcases hw with hw | hw | ⟨x, hw⟩
      · rw [hw]
        have := ih st (by omega) h2
        exact ⟨by omega, this.2⟩
      · rw [hw]
        have := ih ⟨st.headed, st.count, st.vars, st.cls ++ [st.opn], []⟩ (by simp only [List.length_nil]; omega) (fun c hc => by
          rcases List.mem_append.1 hc with h | h
          · exact h2 c h
          · rw [List.mem_singleton.1 h]; omega)
        simp only [List.length_append, List.length_singleton] at this
        exact ⟨by omega, this.2⟩
      · rw [hw]
        have := ih ⟨st.headed, st.count, st.vars, st.cls, st.opn ++ [x]⟩ (by simp only [List.length_append, List.length_singleton]; omega) h2
        exact ⟨by have := this.1; simp only at this; omega, this.2⟩
    · exact ⟨Nat.zero_le _, fun c hc => by cases hc⟩
theorem readD_bound (s : ByteArray) (hs : s.size ≤ 1048576) : (toR (readD s)).2.1.length ≤ 1048577 ∧ ∀ c ∈ (toR (readD s)).2.1, c.length ≤ 1048577 := by
  have hsz : s.data.toList.length = s.size := by simp
  have hm := linesA_mass _ s.data.toList (Nat.le_refl _)
  have hrd : readD s = linesD (linesA s.data.toList) 0 fst0 := rfl
  rw [hrd]
  generalize linesA s.data.toList = L at hm
  have hsp := massA_spk L 0
  rcases lines_first L 0 with ⟨h1, h2⟩ | ⟨ws, m, rest, hne, h1, hB, h2⟩
  · rw [h2]
    exact ⟨Nat.zero_le _, fun c hc => by cases hc⟩
  · rw [h1, List.length_append] at hsp
    rw [h2]
    split
    · have := body_bound (0 + L.length) 1048577 rest ⟨true, (headR ws).2.1, (headR ws).1, [], []⟩ (by simp only [List.length_nil]; omega) (fun c hc => by cases hc)
      simp only [List.length_nil] at this
      exact ⟨by omega, this.2⟩
    · exact ⟨Nat.zero_le _, fun c hc => by cases hc⟩
theorem read_one : readD (⟨#[112, 32, 99, 110, 102, 32, 50, 32, 49, 10, 49, 32, 45, 50, 32, 48, 10]⟩ : ByteArray) = (⟨true, 1, 2, [[1, -2]], []⟩, 0, 0) := by kernel_rfl
theorem readOne_f : dimacs_Read.f (⟨#[112, 32, 99, 110, 102, 32, 50, 32, 49, 10, 49, 32, 45, 50, 32, 48, 10]⟩ : ByteArray) = some (2, [[1, -2]], 0, 0) := by
  unfold dimacs_Read.f R.dimacs_Read.f
  rw [if_pos (by decide), read_one]
  rfl
theorem readsOne_is (k : Nat) (hk : 2 < k) : depotlaw03_readsOne.f k = some true := by
  unfold depotlaw03_readsOne.f
  rw [readOne_f]
  simp only [Option.bind_some]
  simp [rd_L1, sameInts_self [1, -2] (by decide) k (by simpa using hk)]
theorem dimacsReads_pure (s : ByteArray) (hs : s.size ≤ 1048576) : ∃ k, depotlaw03_DimacsReads.f k s = some true := by
  obtain ⟨K, hK⟩ := read_is s hs
  obtain ⟨M, hM⟩ : ∃ M : Nat, M = 1048577 := ⟨_, rfl⟩
  obtain ⟨b1, b2⟩ := readD_bound s hs
  refine ⟨K + 2 * M + 5, ?_⟩
  have hd : dimacs_Read.f s = some (toR (readD s)) := by
    unfold dimacs_Read.f R.dimacs_Read.f
    rw [if_pos (by omega)]
    unfold toR
    by_cases h : (readD s).2.1 = 0
    · rw [if_pos h, if_pos h]
    · rw [if_neg h, if_neg h]
  unfold depotlaw03_DimacsReads.f
  rw [hd, hK _ (by omega)]
  generalize toR (readD s) = r at b1 b2
  simp only [Option.bind_some]
  rw [if_pos trivial, if_pos trivial, sameFormula_self r.1 r.2.1 M (by rw [hM]; exact b2) (by omega) (by omega) _ (by omega)]
  simp only [Option.bind_some]
  rw [if_pos trivial, readsOne_is _ (by omega)]
  rfl
end Go.Proofs.YtejdjmcdlbcmeaaDoor.U
