/- What Formed comes to, in the program and in the reference: the clauses' literals are literals within the variables. No conditions. -/
import Derived.Test.YtejdjmcdlbcmeaaDoorPSound
set_option linter.unusedVariables false
set_option linter.unusedSimpArgs false
namespace Go.Proofs.YtejdjmcdlbcmeaaDoor.P
open Go.RowKit Go.Proofs.YtejdjmcdlbcmeaaDoorW.PrintWords Go.Proofs.YtejdjmcdlbcmeaaDoorW.PrintLast Go.Proofs.YtejdjmcdlbcmeaaDoorW.PrintMore

theorem rdL_nat {xs : List (List Int)} {n : Nat} (h : n < xs.length) : rd_L2 xs (n : Int) = xs[n] := by
  unfold rd_L2
  rw [Int.toNat_natCast, List.getD_eq_getElem?_getD, List.getElem?_eq_getElem h]
  rfl
theorem litOk_range {x : Int} (h : litOk x = true) : -1048576 ≤ x ∧ x ≤ 1048576 := by simp [litOk] at h; omega
def inV (v x : Int) : Bool := decide (x ≤ v ∧ -x ≤ v)
def clauseOk (v : Int) (c : List Int) : Bool := c.all litOk && c.all (inV v)
def formOk (v : Int) (cs : List (List Int)) : Bool := decide (0 ≤ v ∧ v ≤ 1048576) && cs.all (clauseOk v)
theorem var_ok {x : Int} (h : litOk x = true) : lits_Var.f x = some ((x.natAbs : Nat) : Int) := by
  have hr := litOk_range h
  unfold lits_Var.f
  rw [formed_is]
  simp only [Option.bind_some]
  rw [if_pos h]
  by_cases h0 : x < 0
  · rw [if_pos h0, w64 (by omega) (by omega)]; congr 1; omega
  · rw [if_neg h0]; congr 1; omega
theorem within_l0 (v : Int) (l : List Int) (hs : l.all litOk = true) (hl : l.length < 17592186044416) (d : Nat) : ∀ (k i : Nat), i ≤ l.length → l.length - i = d → d < k → cnf_within.l0 k v l (l.length : Int) (i : Int) = some ((l.drop i).all (inV v)) := by
  induction d with
  | zero =>
    intro k i h0 hd hk
    obtain ⟨k, rfl⟩ := succ_of hk
    rw [cnf_within.l0, if_neg (by omega), List.drop_of_length_le (by omega)]
    rfl
  | succ d ih =>
    intro k i h0 hd hk
    obtain ⟨k, rfl⟩ := succ_of hk
    have hi : litOk (l[i]'(by omega)) = true := List.all_eq_true.1 hs _ (List.getElem_mem (by omega))
    rw [cnf_within.l0, if_pos (by omega), if_pos (by omega), if_pos (by omega), rd_nat (by omega), var_ok hi, List.drop_eq_getElem_cons (by omega), List.all_cons]
    simp only [Option.bind_some]
    cases h : inV v (l[i]'(by omega)) with
    | false =>
      rw [if_pos]
      · simp
      · simp [inV] at h; omega
    | true =>
      rw [if_neg (by simp [inV] at h; omega), w64 (by omega) (by omega)]
      simpa using ih k (i + 1) (by omega) (by omega) (by omega)
theorem within_is (v : Int) (l : List Int) (hl : l.length < 17592186044416) (k : Nat) (hk : l.length < k) : cnf_within.f k l v = some (clauseOk v l) := by
  unfold cnf_within.f clauseOk
  rw [sound_is l hl k hk]
  simp only [Option.bind_some]
  cases h : l.all litOk with
  | false => simp
  | true =>
    rw [if_pos rfl]
    have := within_l0 v l h hl l.length k 0 (by omega) (by omega) hk
    simpa using this
theorem refWithin_l0 (v : Int) (l : List Int) (hs : l.all litOk = true) (hl : l.length < 17592186044416) (d : Nat) : ∀ (k i : Nat), i ≤ l.length → l.length - i = d → d < k → depotref02_within.l0 k l v (i : Int) = some ((l.drop i).all (inV v)) := by
  induction d with
  | zero =>
    intro k i h0 hd hk
    obtain ⟨k, rfl⟩ := succ_of hk
    rw [depotref02_within.l0, if_neg (by omega), List.drop_of_length_le (by omega)]
    rfl
  | succ d ih =>
    intro k i h0 hd hk
    obtain ⟨k, rfl⟩ := succ_of hk
    have hi : litOk (l[i]'(by omega)) = true := List.all_eq_true.1 hs _ (List.getElem_mem (by omega))
    have hr := litOk_range hi
    rw [depotref02_within.l0, if_pos (by omega), if_pos (by omega), rd_nat (by omega), List.drop_eq_getElem_cons (by omega), List.all_cons, w64 (x := -(l[i]'(by omega))) (by omega) (by omega)]
    cases h : inV v (l[i]'(by omega)) with
    | false =>
      simp only [inV, decide_eq_false_iff_not] at h
      by_cases h1 : l[i]'(by omega) > v
      · rw [if_pos h1]; simp
      · rw [if_neg h1, if_pos (by omega)]; simp
    | true =>
      simp only [inV, decide_eq_true_eq] at h
      rw [if_neg (by omega), if_neg (by omega), w64 (by omega) (by omega)]
      simpa using ih k (i + 1) (by omega) (by omega) (by omega)
theorem refWithin_is (v : Int) (l : List Int) (hl : l.length < 17592186044416) (k : Nat) (hk : l.length < k) : depotref02_within.f k l v = some (clauseOk v l) := by
  unfold depotref02_within.f clauseOk
  rw [refSound_is l hl k hk]
  simp only [Option.bind_some]
  cases h : l.all litOk with
  | false => simp
  | true =>
    rw [if_pos rfl]
    have := refWithin_l0 v l h hl l.length k 0 (by omega) (by omega) hk
    simpa using this
theorem formed_l0 (v : Int) (cs : List (List Int)) (m : Nat) (hm : ∀ c ∈ cs, c.length ≤ m) (hm2 : m < 17592186044416) (hl : cs.length < 4398046511104) (d : Nat) : ∀ (k i : Nat), i ≤ cs.length → cs.length - i = d → d + m + 1 < k → cnf_Formed.l0 k cs (cs.length : Int) (i : Int) v cs = some ((cs.drop i).all (clauseOk v)) := by
  induction d with
  | zero =>
    intro k i h0 hd hk
    obtain ⟨k, rfl⟩ := succ_of hk
    rw [cnf_Formed.l0, if_neg (by omega), List.drop_of_length_le (by omega)]
    rfl
  | succ d ih =>
    intro k i h0 hd hk
    obtain ⟨k, rfl⟩ := succ_of hk
    have hc := hm (cs[i]'(by omega)) (List.getElem_mem (by omega))
    rw [cnf_Formed.l0, if_pos (by omega), if_pos (by omega), if_pos (by omega), rdL_nat (by omega), within_is v _ (by omega) _ (by omega), List.drop_eq_getElem_cons (by omega), List.all_cons]
    simp only [Option.bind_some]
    cases h : clauseOk v (cs[i]'(by omega)) with
    | false => simp
    | true =>
      rw [if_pos rfl, w64 (by omega) (by omega)]
      simpa using ih k (i + 1) (by omega) (by omega) (by omega)
theorem cnfFormed_is (v : Int) (cs : List (List Int)) (m : Nat) (hm : ∀ c ∈ cs, c.length ≤ m) (hm2 : m < 17592186044416) (hl : cs.length < 4398046511104) (k : Nat) (hk : cs.length + m + 2 < k) : cnf_Formed.f k v cs = some (formOk v cs) := by
  obtain ⟨k, rfl⟩ := succ_of hk
  unfold cnf_Formed.f formOk
  by_cases h0 : v < 0
  · rw [if_pos h0, cnf_Formed.j0, if_pos rfl, decide_eq_false (by omega)]; rfl
  · rw [if_neg h0, cnf_Formed.j0]
    by_cases h1 : v > 1048576
    · rw [decide_eq_true h1, if_pos rfl, decide_eq_false (by omega)]; rfl
    · rw [decide_eq_false h1, if_neg (by decide), decide_eq_true (by omega)]
      have := formed_l0 v cs m hm hm2 hl cs.length k 0 (by omega) (by omega) (by omega)
      simpa using this
theorem refFormed_l0 (v : Int) (cs : List (List Int)) (m : Nat) (hm : ∀ c ∈ cs, c.length ≤ m) (hm2 : m < 17592186044416) (hl : cs.length < 4398046511104) (d : Nat) : ∀ (k i : Nat), i ≤ cs.length → cs.length - i = d → d + m + 1 < k → depotref02_Formed.l0 k (i : Int) v cs = some ((cs.drop i).all (clauseOk v)) := by
  induction d with
  | zero =>
    intro k i h0 hd hk
    obtain ⟨k, rfl⟩ := succ_of hk
    rw [depotref02_Formed.l0, if_neg (by omega), List.drop_of_length_le (by omega)]
    rfl
  | succ d ih =>
    intro k i h0 hd hk
    obtain ⟨k, rfl⟩ := succ_of hk
    have hc := hm (cs[i]'(by omega)) (List.getElem_mem (by omega))
    rw [depotref02_Formed.l0, if_pos (by omega), if_pos (by omega), rdL_nat (by omega), refWithin_is v _ (by omega) _ (by omega), List.drop_eq_getElem_cons (by omega), List.all_cons]
    simp only [Option.bind_some]
    cases h : clauseOk v (cs[i]'(by omega)) with
    | false => simp
    | true =>
      rw [if_pos rfl, w64 (by omega) (by omega)]
      simpa using ih k (i + 1) (by omega) (by omega) (by omega)
theorem refFormedF_is (v : Int) (cs : List (List Int)) (m : Nat) (hm : ∀ c ∈ cs, c.length ≤ m) (hm2 : m < 17592186044416) (hl : cs.length < 4398046511104) (k : Nat) (hk : cs.length + m + 2 < k) : depotref02_Formed.f k v cs = some (formOk v cs) := by
  obtain ⟨k, rfl⟩ := succ_of hk
  unfold depotref02_Formed.f formOk
  by_cases h0 : v < 0
  · rw [if_pos h0, depotref02_Formed.j0, if_pos rfl, decide_eq_false (by omega)]; rfl
  · rw [if_neg h0, depotref02_Formed.j0]
    by_cases h1 : v > 1048576
    · rw [decide_eq_true h1, if_pos rfl, decide_eq_false (by omega)]; rfl
    · rw [decide_eq_false h1, if_neg (by decide), decide_eq_true (by omega)]
      have := refFormed_l0 v cs m hm hm2 hl cs.length k 0 (by omega) (by omega) (by omega)
      simpa using this
theorem copyClauses_l0 (l : List (List Int)) (m : Nat) (hm : ∀ c ∈ l, c.length ≤ m) (hm2 : m < 17592186044416) (hl : l.length < 4398046511104) (d : Nat) : ∀ (k i : Nat), i ≤ l.length → l.length - i = d → d + m + 1 < k → depotref00_CopyClauses.l0 k l (l.take i) (i : Int) = some l := by
  induction d with
  | zero =>
    intro k i h0 hd hk
    obtain ⟨k, rfl⟩ := succ_of hk
    rw [depotref00_CopyClauses.l0, if_neg (by omega), List.take_of_length_le (by omega)]
  | succ d ih =>
    intro k i h0 hd hk
    obtain ⟨k, rfl⟩ := succ_of hk
    have hs := hm l[i] (List.getElem_mem (by omega))
    rw [depotref00_CopyClauses.l0, if_pos (by omega), if_pos (by omega), rdL_nat (by omega), copyInts_is _ (by omega) _ (by omega)]
    simp only [Option.bind_some]
    rw [if_pos (by rw [List.length_take]; omega), ← take_succ' (by omega), w64 (by omega) (by omega)]
    exact ih k (i + 1) (by omega) (by omega) (by omega)
theorem copyFormula_is (v : Int) (l : List (List Int)) (m : Nat) (hm : ∀ c ∈ l, c.length ≤ m) (hm2 : m < 17592186044416) (hl : l.length < 4398046511104) (k : Nat) (hk : l.length + m + 1 < k) : depotref00_CopyFormula.f k v l = some (v, l) := by
  unfold depotref00_CopyFormula.f depotref00_CopyClauses.f
  have := copyClauses_l0 l m hm hm2 hl l.length k 0 (by omega) (by omega) hk
  rw [show (0 : Int) = ((0 : Nat) : Int) from rfl, show ([] : List (List Int)) = l.take 0 from rfl, this]
  rfl
end Go.Proofs.YtejdjmcdlbcmeaaDoor.P
