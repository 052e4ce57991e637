/- Small lemmas on numbers, lists and rounds for the pure parts of this seat's statements. No conditions. What a literal is; what Formed and Sound come to, in the program and in the reference; copies. No conditions. What Formed comes to, in the program and in the reference: the clauses' literals are literals within the variables. No conditions. What depot/dimacs.Write comes to: the text of the formula, or the refusal. No conditions. -/
import Derived.Test.YtejdjmcdlbcmeaaDoorPx0
import Derived.Test.YtejdjmcdlbcmeaaDoorPx1
import Derived.Test.YtejdjmcdlbcmeaaDoorPx2
import Derived.Test.YtejdjmcdlbcmeaaDoorLibP
import Derived.Lib.ItoaLen
import Derived.Deep.RegionHeld3
section
set_option linter.unusedVariables false
set_option linter.unusedSimpArgs false
namespace Go.Proofs.YtejdjmcdlbcmeaaDoor.P
open Go.RowKit Go.Proofs.YtejdjmcdlbcmeaaDoorW.PrintWords Go.Proofs.YtejdjmcdlbcmeaaDoorW.PrintLast Go.Proofs.YtejdjmcdlbcmeaaDoorW.PrintMore

theorem w64 {x : Int} (h0 : -9223372036854775808 ≤ x) (h1 : x ≤ 9223372036854775807) : wrap64 x = x := by
  unfold wrap64; omega
theorem wu64 {x : Int} (h0 : 0 ≤ x) (h1 : x ≤ 18446744073709551615) : IntKind.u64.wrap x = x := by
  simp only [IntKind.wrap, IntKind.bits, IntKind.signed]
  simp
  omega
theorem rd_nat {xs : List Int} {n : Nat} (h : n < xs.length) : rd xs (n : Int) = xs[n] := by
  unfold rd
  rw [Int.toNat_natCast, List.getD_eq_getElem?_getD, List.getElem?_eq_getElem h]
  rfl
theorem rdOf_nat {α : Type} {z : α} {xs : List α} {n : Nat} (h : n < xs.length) : rdOf z xs (n : Int) = xs[n] := by
  unfold rdOf
  rw [Int.toNat_natCast, List.getD_eq_getElem?_getD, List.getElem?_eq_getElem h]
  rfl
theorem nat_of {x : Int} (h : 0 ≤ x) : ∃ n : Nat, x = n := ⟨x.toNat, by omega⟩
theorem wf_u8 {x : Int} (h : (Lit.int .u8 x).wf = true) : 0 ≤ x ∧ x ≤ 255 := by
  simpa [Lit.wf, IntKind.min, IntKind.max, IntKind.signed, IntKind.bits] using h
theorem wf_u64 {x : Int} (h : (Lit.int .u64 x).wf = true) : 0 ≤ x ∧ x ≤ 18446744073709551615 := by
  simpa [Lit.wf, IntKind.min, IntKind.max, IntKind.signed, IntKind.bits] using h
theorem wf_i64 {x : Int} (h : (Lit.int .i64 x).wf = true) : -9223372036854775808 ≤ x ∧ x ≤ 9223372036854775807 := by
  simpa [Lit.wf, IntKind.min, IntKind.max, IntKind.signed, IntKind.bits] using h
theorem succ_of {k d : Nat} (h : d < k) : ∃ m, k = m + 1 := ⟨k - 1, by omega⟩
theorem take_succ' {α : Type} {xs : List α} {n : Nat} (h : n < xs.length) : xs.take (n + 1) = xs.take n ++ [xs[n]] := by
  rw [List.take_succ_eq_append_getElem h]

end Go.Proofs.YtejdjmcdlbcmeaaDoor.P
end
section
set_option linter.unusedVariables false
set_option linter.unusedSimpArgs false
namespace Go.Proofs.YtejdjmcdlbcmeaaDoor.P
open Go.RowKit Go.Proofs.YtejdjmcdlbcmeaaDoorW.PrintWords Go.Proofs.YtejdjmcdlbcmeaaDoorW.PrintLast Go.Proofs.YtejdjmcdlbcmeaaDoorW.PrintMore Go.Proofs.YtejdjmcdlbcmeaaDoor.P

theorem copyInts_l0 (l : List Int) (hl : l.length < 17592186044416) (d : Nat) : ∀ (k i : Nat), i ≤ l.length → l.length - i = d → d < k → depotref00_CopyInts.l0 k l (l.take i) (i : Int) = some l := by
  induction d with
  | zero =>
    intro k i h0 hd hk
    obtain ⟨k, rfl⟩ := succ_of hk
    rw [depotref00_CopyInts.l0, if_neg (by omega), List.take_of_length_le (by omega)]
  | succ d ih =>
    intro k i h0 hd hk
    obtain ⟨k, rfl⟩ := succ_of hk
    rw [depotref00_CopyInts.l0, if_pos (by omega), if_pos (by omega), if_pos (by rw [List.length_take]; omega), rd_nat (by omega), ← take_succ' (by omega), w64 (by omega) (by omega)]
    exact ih k (i + 1) (by omega) (by omega) (by omega)
theorem copyInts_is (l : List Int) (hl : l.length < 17592186044416) (k : Nat) (hk : l.length < k) : depotref00_CopyInts.f k l = some l := by
  unfold depotref00_CopyInts.f
  exact copyInts_l0 l hl l.length k 0 (by omega) (by omega) hk
/-- Is it a literal? -/
def litOk (x : Int) : Bool := decide (x ≠ 0 ∧ -1048576 ≤ x ∧ x ≤ 1048576)
theorem formed_is (x : Int) : lits_Formed.f x = some (litOk x) := by
  unfold lits_Formed.f litOk
  by_cases h : x = 0
  · rw [if_pos h]; simp [h]
  · rw [if_neg h]
    by_cases h1 : x ≥ -1048576
    · rw [if_pos h1]; congr 1; rw [decide_eq_decide]; omega
    · rw [if_neg h1]; congr 1; symm; rw [decide_eq_false_iff_not]; omega
theorem refFormed_is (x : Int) : depotref01_Formed.f x = some (litOk x) := by
  unfold depotref01_Formed.f litOk
  by_cases h : x ≥ 1
  · rw [if_pos h]
    by_cases h1 : x ≤ 1048576
    · rw [if_pos h1]; congr 1; symm; rw [decide_eq_true_eq]; omega
    · rw [if_neg h1, if_pos (by omega)]; congr 1; rw [decide_eq_decide]; omega
  · rw [if_neg h]
    by_cases h1 : x ≥ -1048576
    · rw [if_pos h1]; congr 1; rw [decide_eq_decide]; omega
    · rw [if_neg h1]; congr 1; symm; rw [decide_eq_false_iff_not]; omega
theorem sound_l0 (l : List Int) (hl : l.length < 17592186044416) (d : Nat) : ∀ (k i : Nat), i ≤ l.length → l.length - i = d → d < k → lits_Sound.l0 k l (l.length : Int) (i : Int) = some ((l.drop i).all litOk) := by
  induction d with
  | zero =>
    intro k i h0 hd hk
    obtain ⟨k, rfl⟩ := succ_of hk
    rw [lits_Sound.l0, if_neg (by omega), List.drop_of_length_le (by omega)]
    rfl
  | succ d ih =>
    intro k i h0 hd hk
    obtain ⟨k, rfl⟩ := succ_of hk
    rw [lits_Sound.l0, if_pos (by omega), if_pos (by omega), if_pos (by omega), rd_nat (by omega), formed_is, List.drop_eq_getElem_cons (by omega), List.all_cons]
    simp only [Option.bind_some]
    cases h : litOk (l[i]'(by omega)) with
    | false => simp
    | true =>
      rw [if_pos rfl, w64 (by omega) (by omega)]
      simpa using ih k (i + 1) (by omega) (by omega) (by omega)
theorem sound_is (l : List Int) (hl : l.length < 17592186044416) (k : Nat) (hk : l.length < k) : lits_Sound.f k l = some (l.all litOk) := by
  unfold lits_Sound.f
  exact sound_l0 l hl l.length k 0 (by omega) (by omega) hk
theorem refSound_l0 (l : List Int) (hl : l.length < 17592186044416) (d : Nat) : ∀ (k i : Nat), i ≤ l.length → l.length - i = d → d < k → depotref01_Sound.l0 k l (i : Int) = some ((l.drop i).all litOk) := by
  induction d with
  | zero =>
    intro k i h0 hd hk
    obtain ⟨k, rfl⟩ := succ_of hk
    rw [depotref01_Sound.l0, if_neg (by omega), List.drop_of_length_le (by omega)]
    rfl
  | succ d ih =>
    intro k i h0 hd hk
    obtain ⟨k, rfl⟩ := succ_of hk
    rw [depotref01_Sound.l0, if_pos (by omega), if_pos (by omega), rd_nat (by omega), refFormed_is, List.drop_eq_getElem_cons (by omega), List.all_cons]
    simp only [Option.bind_some]
    cases h : litOk (l[i]'(by omega)) with
    | false => simp
    | true =>
      rw [if_pos rfl, w64 (by omega) (by omega)]
      simpa using ih k (i + 1) (by omega) (by omega) (by omega)
theorem refSound_is (l : List Int) (hl : l.length < 17592186044416) (k : Nat) (hk : l.length < k) : depotref01_Sound.f k l = some (l.all litOk) := by
  unfold depotref01_Sound.f
  exact refSound_l0 l hl l.length k 0 (by omega) (by omega) hk

end Go.Proofs.YtejdjmcdlbcmeaaDoor.P
end
section
set_option linter.unusedVariables false
set_option linter.unusedSimpArgs false
namespace Go.Proofs.YtejdjmcdlbcmeaaDoor.P
open Go.RowKit Go.Proofs.YtejdjmcdlbcmeaaDoorW.PrintWords Go.Proofs.YtejdjmcdlbcmeaaDoorW.PrintLast Go.Proofs.YtejdjmcdlbcmeaaDoorW.PrintMore

theorem rdL_nat {xs : List (List Int)} {n : Nat} (h : n < xs.length) : rd_L2 xs (n : Int) = xs[n] := by
  unfold rd_L2
  rw [Int.toNat_natCast, List.getD_eq_getElem?_getD, List.getElem?_eq_getElem h]
  rfl
theorem litOk_range {x : Int} (h : litOk x = true) : -1048576 ≤ x ∧ x ≤ 1048576 := by simp [litOk] at h; omega
def inV (v x : Int) : Bool := decide (x ≤ v ∧ -x ≤ v)
def clauseOk (v : Int) (c : List Int) : Bool := c.all litOk && c.all (inV v)
def formOk (v : Int) (cs : List (List Int)) : Bool := decide (0 ≤ v ∧ v ≤ 1048576) && cs.all (clauseOk v)
theorem var_ok {x : Int} (h : litOk x = true) : lits_Var.f x = some ((x.natAbs : Nat) : Int) := by
  have hr := litOk_range h
  unfold lits_Var.f
  rw [formed_is]
  simp only [Option.bind_some]
  rw [if_pos h]
  by_cases h0 : x < 0
  · rw [if_pos h0, w64 (by omega) (by omega)]; congr 1; omega
  · rw [if_neg h0]; congr 1; omega
theorem within_l0 (v : Int) (l : List Int) (hs : l.all litOk = true) (hl : l.length < 17592186044416) (d : Nat) : ∀ (k i : Nat), i ≤ l.length → l.length - i = d → d < k → cnf_within.l0 k v l (l.length : Int) (i : Int) = some ((l.drop i).all (inV v)) := by
  induction d with
  | zero =>
    intro k i h0 hd hk
    obtain ⟨k, rfl⟩ := succ_of hk
    rw [cnf_within.l0, if_neg (by omega), List.drop_of_length_le (by omega)]
    rfl
  | succ d ih =>
    intro k i h0 hd hk
    obtain ⟨k, rfl⟩ := succ_of hk
    have hi : litOk (l[i]'(by omega)) = true := List.all_eq_true.1 hs _ (List.getElem_mem (by omega))
    rw [cnf_within.l0, if_pos (by omega), if_pos (by omega), if_pos (by omega), rd_nat (by omega), var_ok hi, List.drop_eq_getElem_cons (by omega), List.all_cons]
    simp only [Option.bind_some]
    cases h : inV v (l[i]'(by omega)) with
    | false =>
      rw [if_pos]
      · simp
      · simp [inV] at h; omega
    | true =>
      rw [if_neg (by simp [inV] at h; omega), w64 (by omega) (by omega)]
      simpa using ih k (i + 1) (by omega) (by omega) (by omega)
theorem within_is (v : Int) (l : List Int) (hl : l.length < 17592186044416) (k : Nat) (hk : l.length < k) : cnf_within.f k l v = some (clauseOk v l) := by
  unfold cnf_within.f clauseOk
  rw [sound_is l hl k hk]
  simp only [Option.bind_some]
  cases h : l.all litOk with
  | false => simp
  | true =>
    rw [if_pos rfl]
    have := within_l0 v l h hl l.length k 0 (by omega) (by omega) hk
    simpa using this
theorem refWithin_l0 (v : Int) (l : List Int) (hs : l.all litOk = true) (hl : l.length < 17592186044416) (d : Nat) : ∀ (k i : Nat), i ≤ l.length → l.length - i = d → d < k → depotref02_within.l0 k l v (i : Int) = some ((l.drop i).all (inV v)) := by
  induction d with
  | zero =>
    intro k i h0 hd hk
    obtain ⟨k, rfl⟩ := succ_of hk
    rw [depotref02_within.l0, if_neg (by omega), List.drop_of_length_le (by omega)]
    rfl
  | succ d ih =>
    intro k i h0 hd hk
    obtain ⟨k, rfl⟩ := succ_of hk
    have hi : litOk (l[i]'(by omega)) = true := List.all_eq_true.1 hs _ (List.getElem_mem (by omega))
    have hr := litOk_range hi
    rw [depotref02_within.l0, if_pos (by omega), if_pos (by omega), rd_nat (by omega), List.drop_eq_getElem_cons (by omega), List.all_cons, w64 (x := -(l[i]'(by omega))) (by omega) (by omega)]
    cases h : inV v (l[i]'(by omega)) with
    | false =>
      simp only [inV, decide_eq_false_iff_not] at h
      by_cases h1 : l[i]'(by omega) > v
      · rw [if_pos h1]; simp
      · rw [if_neg h1, if_pos (by omega)]; simp
    | true =>
      simp only [inV, decide_eq_true_eq] at h
      rw [if_neg (by omega), if_neg (by omega), w64 (by omega) (by omega)]
      simpa using ih k (i + 1) (by omega) (by omega) (by omega)
theorem refWithin_is (v : Int) (l : List Int) (hl : l.length < 17592186044416) (k : Nat) (hk : l.length < k) : depotref02_within.f k l v = some (clauseOk v l) := by
  unfold depotref02_within.f clauseOk
  rw [refSound_is l hl k hk]
  simp only [Option.bind_some]
  cases h : l.all litOk with
  | false => simp
  | true =>
    rw [if_pos rfl]
    have := refWithin_l0 v l h hl l.length k 0 (by omega) (by omega) hk
    simpa using this
theorem formed_l0 (v : Int) (cs : List (List Int)) (m : Nat) (hm : ∀ c ∈ cs, c.length ≤ m) (hm2 : m < 17592186044416) (hl : cs.length < 4398046511104) (d : Nat) : ∀ (k i : Nat), i ≤ cs.length → cs.length - i = d → d + m + 1 < k → cnf_Formed.l0 k cs (cs.length : Int) (i : Int) v cs = some ((cs.drop i).all (clauseOk v)) := by
  induction d with
  | zero =>
    intro k i h0 hd hk
    obtain ⟨k, rfl⟩ := succ_of hk
    rw [cnf_Formed.l0, if_neg (by omega), List.drop_of_length_le (by omega)]
    rfl
  | succ d ih =>
    intro k i h0 hd hk
    obtain ⟨k, rfl⟩ := succ_of hk
    have hc := hm (cs[i]'(by omega)) (List.getElem_mem (by omega))
    rw [cnf_Formed.l0, if_pos (by omega), if_pos (by omega), if_pos (by omega), rdL_nat (by omega), within_is v _ (by omega) _ (by omega), List.drop_eq_getElem_cons (by omega), List.all_cons]
    simp only [Option.bind_some]
    cases h : clauseOk v (cs[i]'(by omega)) with
    | false => simp
    | true =>
      rw [if_pos rfl, w64 (by omega) (by omega)]
      simpa using ih k (i + 1) (by omega) (by omega) (by omega)
theorem cnfFormed_is (v : Int) (cs : List (List Int)) (m : Nat) (hm : ∀ c ∈ cs, c.length ≤ m) (hm2 : m < 17592186044416) (hl : cs.length < 4398046511104) (k : Nat) (hk : cs.length + m + 2 < k) : cnf_Formed.f k v cs = some (formOk v cs) := by
  obtain ⟨k, rfl⟩ := succ_of hk
  unfold cnf_Formed.f formOk
  by_cases h0 : v < 0
  · rw [if_pos h0, cnf_Formed.j0, if_pos rfl, decide_eq_false (by omega)]; rfl
  · rw [if_neg h0, cnf_Formed.j0]
    by_cases h1 : v > 1048576
    · rw [decide_eq_true h1, if_pos rfl, decide_eq_false (by omega)]; rfl
    · rw [decide_eq_false h1, if_neg (by decide), decide_eq_true (by omega)]
      have := formed_l0 v cs m hm hm2 hl cs.length k 0 (by omega) (by omega) (by omega)
      simpa using this
theorem refFormed_l0 (v : Int) (cs : List (List Int)) (m : Nat) (hm : ∀ c ∈ cs, c.length ≤ m) (hm2 : m < 17592186044416) (hl : cs.length < 4398046511104) (d : Nat) : ∀ (k i : Nat), i ≤ cs.length → cs.length - i = d → d + m + 1 < k → depotref02_Formed.l0 k (i : Int) v cs = some ((cs.drop i).all (clauseOk v)) := by
  induction d with
  | zero =>
    intro k i h0 hd hk
    obtain ⟨k, rfl⟩ := succ_of hk
    rw [depotref02_Formed.l0, if_neg (by omega), List.drop_of_length_le (by omega)]
    rfl
  | succ d ih =>
    intro k i h0 hd hk
    obtain ⟨k, rfl⟩ := succ_of hk
    have hc := hm (cs[i]'(by omega)) (List.getElem_mem (by omega))
    rw [depotref02_Formed.l0, if_pos (by omega), if_pos (by omega), rdL_nat (by omega), refWithin_is v _ (by omega) _ (by omega), List.drop_eq_getElem_cons (by omega), List.all_cons]
    simp only [Option.bind_some]
    cases h : clauseOk v (cs[i]'(by omega)) with
    | false => simp
    | true =>
      rw [if_pos rfl, w64 (by omega) (by omega)]
      simpa using ih k (i + 1) (by omega) (by omega) (by omega)
theorem refFormedF_is (v : Int) (cs : List (List Int)) (m : Nat) (hm : ∀ c ∈ cs, c.length ≤ m) (hm2 : m < 17592186044416) (hl : cs.length < 4398046511104) (k : Nat) (hk : cs.length + m + 2 < k) : depotref02_Formed.f k v cs = some (formOk v cs) := by
  obtain ⟨k, rfl⟩ := succ_of hk
  unfold depotref02_Formed.f formOk
  by_cases h0 : v < 0
  · rw [if_pos h0, depotref02_Formed.j0, if_pos rfl, decide_eq_false (by omega)]; rfl
  · rw [if_neg h0, depotref02_Formed.j0]
    by_cases h1 : v > 1048576
    · rw [decide_eq_true h1, if_pos rfl, decide_eq_false (by omega)]; rfl
    · rw [decide_eq_false h1, if_neg (by decide), decide_eq_true (by omega)]
      have := refFormed_l0 v cs m hm hm2 hl cs.length k 0 (by omega) (by omega) (by omega)
      simpa using this
theorem copyClauses_l0 (l : List (List Int)) (m : Nat) (hm : ∀ c ∈ l, c.length ≤ m) (hm2 : m < 17592186044416) (hl : l.length < 4398046511104) (d : Nat) : ∀ (k i : Nat), i ≤ l.length → l.length - i = d → d + m + 1 < k → depotref00_CopyClauses.l0 k l (l.take i) (i : Int) = some l := by
  induction d with
  | zero =>
    intro k i h0 hd hk
    obtain ⟨k, rfl⟩ := succ_of hk
    rw [depotref00_CopyClauses.l0, if_neg (by omega), List.take_of_length_le (by omega)]
  | succ d ih =>
    intro k i h0 hd hk
    obtain ⟨k, rfl⟩ := succ_of hk
    have hs := hm l[i] (List.getElem_mem (by omega))
    rw [depotref00_CopyClauses.l0, if_pos (by omega), if_pos (by omega), rdL_nat (by omega), copyInts_is _ (by omega) _ (by omega)]
    simp only [Option.bind_some]
    rw [if_pos (by rw [List.length_take]; omega), ← take_succ' (by omega), w64 (by omega) (by omega)]
    exact ih k (i + 1) (by omega) (by omega) (by omega)
theorem copyFormula_is (v : Int) (l : List (List Int)) (m : Nat) (hm : ∀ c ∈ l, c.length ≤ m) (hm2 : m < 17592186044416) (hl : l.length < 4398046511104) (k : Nat) (hk : l.length + m + 1 < k) : depotref00_CopyFormula.f k v l = some (v, l) := by
  unfold depotref00_CopyFormula.f depotref00_CopyClauses.f
  have := copyClauses_l0 l m hm hm2 hl l.length k 0 (by omega) (by omega) hk
  rw [show (0 : Int) = ((0 : Nat) : Int) from rfl, show ([] : List (List Int)) = l.take 0 from rfl, this]
  rfl
end Go.Proofs.YtejdjmcdlbcmeaaDoor.P
end
section
set_option linter.unusedVariables false
set_option linter.unusedSimpArgs false
namespace Go.Proofs.YtejdjmcdlbcmeaaDoor.P
open Go.RowKit Go.Proofs.YtejdjmcdlbcmeaaDoorW.PrintWords Go.Proofs.YtejdjmcdlbcmeaaDoorW.PrintLast Go.Proofs.YtejdjmcdlbcmeaaDoorW.PrintMore
open Go.Proofs.YtejdjmcdlbcmeaaDoor.B (Bld)

/-- The text of literals, of a clause, of clauses, of a formula. -/
def wordsT (l : List Int) : List UInt8 := l.flatMap fun x => Lib.itoa x ++ [32]
def clauseT (c : List Int) : List UInt8 := wordsT c ++ [48, 10]
def clausesT (l : List (List Int)) : List UInt8 := l.flatMap clauseT
def headF (v : Int) (n : Nat) : List UInt8 := [112, 32, 99, 110, 102, 32] ++ Lib.itoa v ++ [32] ++ Lib.itoa n ++ [10]
def formT (v : Int) (l : List (List Int)) : List UInt8 := headF v l.length ++ clausesT l
theorem wordsT_snoc (l : List Int) (x : Int) : wordsT (l ++ [x]) = wordsT l ++ (Lib.itoa x ++ [32]) := by unfold wordsT; rw [List.flatMap_append]; simp
theorem clausesT_snoc (l : List (List Int)) (s : List Int) : clausesT (l ++ [s]) = clausesT l ++ clauseT s := by unfold clausesT; rw [List.flatMap_append]; simp
theorem wordsT_length (l : List Int) (h : l.all litOk = true) : (wordsT l).length ≤ 22 * l.length := by
  induction l with
  | nil => simp [wordsT]
  | cons x l ih =>
    rw [List.all_cons, Bool.and_eq_true] at h
    have h1 := litOk_range h.1
    have h2 := Lib.itoa_length_le x (by omega) (by omega)
    have h3 := ih h.2
    simp only [wordsT, List.flatMap_cons, List.length_append, List.length_cons, List.length_nil] at h3 ⊢
    omega
theorem clausesT_length (l : List (List Int)) (m : Nat) (hm : ∀ s ∈ l, s.length ≤ m) (h : ∀ s ∈ l, s.all litOk = true) : (clausesT l).length ≤ l.length * (22 * m + 2) := by
  induction l with
  | nil => simp [clausesT]
  | cons s l ih =>
    have h1 := ih (fun s hs => hm s (List.mem_cons_of_mem _ hs)) (fun s hs => h s (List.mem_cons_of_mem _ hs))
    have h2 := hm s List.mem_cons_self
    have h3 := wordsT_length s (h s List.mem_cons_self)
    simp only [clausesT, List.flatMap_cons, List.length_append, List.length_cons, clauseT, List.length_nil] at h1 ⊢
    rw [Nat.add_mul]
    omega
theorem headF_length (v : Int) (n : Nat) (h0 : 0 ≤ v) (h1 : v ≤ 1048576) (hn : n ≤ 1048576) : (headF v n).length ≤ 50 := by
  have a := Lib.itoa_length_le v (by omega) (by omega)
  have b := Lib.itoa_length_le (n : Int) (by omega) (by omega)
  simp only [headF, List.length_append, List.length_cons, List.length_nil]
  omega
theorem clauseOk_lits {v : Int} {c : List Int} (h : clauseOk v c = true) : c.all litOk = true := (Bool.and_eq_true _ _ ▸ h : _ ∧ _).1
theorem formOk_parts {v : Int} {l : List (List Int)} (h : formOk v l = true) : 0 ≤ v ∧ v ≤ 1048576 ∧ ∀ c ∈ l, c.all litOk = true := by
  unfold formOk at h
  rw [Bool.and_eq_true, decide_eq_true_eq] at h
  exact ⟨h.1.1, h.1.2, fun c hc => clauseOk_lits (List.all_eq_true.1 h.2 c hc)⟩
def dimR (v : Int) (l : List (List Int)) : ByteArray × Int := if formOk v l then (⟨(formT v l).toArray⟩, 0) else (⟨#[]⟩, 1)
/-- What depot/dimacs.Write comes to. -/
def dimacs_Write.f (v : Int) (l : List (List Int)) : Option (ByteArray × Int) := if l.length ≤ 1048576 ∧ ∀ s ∈ l, s.length ≤ 1048576 then some (dimR v l) else none

set_option maxHeartbeats 8000000 in
set_option maxRecDepth 100000 in
theorem write_walk (v : Int) (A0 : Option Addr) (c0 : Nat) (l0 : List (List Int)) (r : ByteArray × Int) (w : World) (hr0 : Kd.C (Kd.slice 3 (Kd.int .i64)) w A0 l0.length l0) (hc0 : l0.length ≤ c0) (hE : Env w) (hn : l0.length ≤ 1048576) (hm : ∀ s ∈ l0, s.length ≤ 1048576) (hr : dimR v l0 = r) :
    Calls Tryd.prog 15 #[.agg #[.int .i64 v, .slice A0 l0.length c0]] w fun e w' => e = .returned (.tuple #[.string r.1, .int .i64 r.2]) ∧ Below w.heap.size w w' := by
  have hu28 := Tryd.underlying28
  have HR := Aside0.mk hr0
  have HC := Aside0.mk hc0
  have HE := Aside0.mk hE
  have HM := Aside0.mk hm
  have HRR := Aside0.mk hr
  clear hr0 hc0 hE hm hr
  go_enter Tryd.func15, Tryd.ntmps15
  go_wp2_with fail
  refine (cnf_Formed.calls (l0.length + 1048576 + 3) v A0 c0 l0 (formOk v l0) _ (by (with_reducible repeat (first | apply Kd.C_alloc | apply Kd.C_drewN | apply Kd.C_drew)); exact HR.out) HC.out (cnfFormed_is v l0 1048576 HM.out (by omega) (by omega) _ (by omega))).mono ?_
  rintro e w1 ⟨rfl, hb1⟩
  have HB1 := Aside0.mk hb1
  clear hb1
  have hbw : Below w.heap.size w w1 := by
    have := (Below.refl w.heap.size w).alloc (Nat.le_refl _) (.cells #[.int .i64 v, .slice A0 l0.length c0] 28)
    exact this.trans (HB1.out.mono (by simp))
  cases hok : formOk v l0 with
  | false =>
    go_wp2_with fail
    go_ret2
    have hR : dimR v l0 = (⟨#[]⟩, 1) := by
      unfold dimR
      rw [if_neg (by rw [hok]; decide)]
    rw [← HRR.out, hR]
    exact ⟨rfl, hbw⟩
  | true =>
    obtain ⟨hv0, hv1, hlits⟩ := formOk_parts hok
    go_wp2_with fail
    have f0 : w1.cell? ⟨w.heap.size, 0, none⟩ = some (.int .i64 v) := by rw [HB1.out.cell (by simp)]; simp [World.cell?_alloc_new]
    have f1 : w1.cell? ⟨w.heap.size, 1, none⟩ = some (.slice A0 l0.length c0) := by rw [HB1.out.cell (by simp)]; simp [World.cell?_alloc_new]
    have hlt1 : w.heap.size < w1.heap.size := World.block_lt_of_cell? w1 _ f0
    have hxv := Lib.itoa_length_le v (by omega) (by omega)
    have hxn := Lib.itoa_length_le (l0.length : Int) (by omega) (by omega)
    have HS := Aside0.mk (Bld.start w1)
    have HN := Aside0.mk (show Tryd.prog.cellsOf 49 = 2 by kernel_rfl)
    have HEn := HE.out.below hbw
    have kp : ∀ W, Below w1.heap.size w1 W → W.cell? ⟨w.heap.size, 0, none⟩ = some (.int .i64 v) ∧ W.cell? ⟨w.heap.size, 1, none⟩ = some (.slice A0 l0.length c0) := fun W h => ⟨(h.cell hlt1).trans f0, (h.cell hlt1).trans f1⟩
    have KP := Aside0.mk kp
    have HEN := Aside0.mk HEn
    clear kp HEn
    have hq1 : ¬ (9223372036854775807 < 6 + (Lib.itoa v).length) := by omega
    have hq2 : ¬ (9223372036854775807 < 6 + (Lib.itoa v).length + 1) := by omega
    have hq3 : ¬ (9223372036854775807 < 6 + (Lib.itoa v).length + 1 + (Lib.itoa (l0.length : Int)).length) := by omega
    have hq4 : ¬ (9223372036854775807 < 6 + (Lib.itoa v).length + 1 + (Lib.itoa (l0.length : Int)).length + 1) := by omega
    go_cut [23] (fun v23 wx => Aside0 (Bld w1 (headF v l0.length) wx))
    case first =>
      go_region_held3 (fun w' => w'.cell? ⟨w.heap.size, 0, none⟩ = some (.int .i64 v) ∧ w'.cell? ⟨w.heap.size, 1, none⟩ = some (.slice A0 l0.length c0))
        (first | exact KP.out _ HZ.out.below | exact KP.out _ HY.out.below | exact KP.out _ HX.out.below | exact KP.out _ ((HS.out.on ((Below.refl _ _).drew)).below))
        (first
          | (go_at_call 20; (with_reducible refine (strconv_Itoa_20.calls v _ _ (HEN.out.below (HS.out.on ((Below.refl _ _).drew)).below) (by unfold strconv_Itoa_20.f; exact if_pos (by omega))).mono ?_); rintro e w2 ⟨rfl, hb2⟩; have HX := Aside0.mk ((HS.out.on ((Below.refl _ _).drew)).on hb2); clear hb2)
          | (go_at_call 20; (with_reducible refine (strconv_Itoa_20.calls (l0.length : Int) _ _ (HEN.out.below HX.out.below) (by unfold strconv_Itoa_20.f; exact if_pos (by omega))).mono ?_); rintro e w3 ⟨rfl, hb3⟩; have HY := Aside0.mk (HX.out.on hb3); clear hb3)
          | (go_at_call 29; refine (Bld.write HY.out _ (by simp only [ByteArray.size_append]; show 0 + (6 + (Lib.itoa v).length + 1 + (Lib.itoa (l0.length : Int)).length + 1) ≤ _; omega)).mono ?_; rintro e w4 ⟨rfl, hb4, hk4⟩; have HZ := Aside0.mk hb4; clear hb4 hk4))
      all_goals (go_wp2_with fail; go_meet; exact ⟨by simpa [headF] using HZ.out⟩)
    case rest =>
      clear HS
      have HS := hcut
      have g1 := (KP.out wc HS.out.below).2
      go_wp2_with fail
      clear g1
      go_loopw [27] (fun i wr => ∃ k : Nat, k ≤ l0.length ∧ i = .int .i64 k ∧ Aside0 (Bld w1 (headF v l0.length ++ clausesT (l0.take k)) wr)) (fun i _ => l0.length - (intOf i).toNat)
      case atStart => exact ⟨0, Nat.zero_le _, rfl, ⟨by simpa [clausesT] using HS.out⟩⟩
      case round =>
        obtain ⟨k, hk, rfl, hB⟩ := hrel
        have hbw2 := Aside0.mk (hbw.trans (hB.out.below.mono hbw.size))
        by_cases hlt : k < l0.length
        · obtain ⟨ad, A1, c1, rfl, hx1, hl1, hC1⟩ := at_L2 HR.out (k : Int) (by omega) (by omega)
          replace hx1 := (hbw2.out.cell (World.block_lt_of_cell? w _ hx1)).trans hx1
          simp only [Int.toNat_natCast] at hx1
          have HL1 := Aside0.mk hl1
          have HC1 := Aside0.mk hC1
          clear hl1 hC1
          rw [rdL_nat hlt] at hx1 HL1 HC1
          have hsm := HM.out l0[k] (List.getElem_mem hlt)
          have hs := hlits l0[k] (List.getElem_mem hlt)
          have hsz := clausesT_length (l0.take k) 1048576 (fun s h => HM.out s (List.mem_of_mem_take h)) (fun s h => hlits s (List.mem_of_mem_take h))
          have hbig : (clausesT (l0.take k)).length ≤ 1048576 * (22 * 1048576 + 2) := Nat.le_trans hsz (Nat.mul_le_mul_right _ (by rw [List.length_take]; omega))
          have hhd := headF_length v l0.length hv0 hv1 hn
          clear hsz
          go_wp2_with fail
          go_loopw [33] (fun j w3 => ∃ m : Nat, m ≤ l0[k].length ∧ j = .int .i64 m ∧ Aside0 (Bld w1 (headF v l0.length ++ clausesT (l0.take k) ++ wordsT (l0[k].take m)) w3)) (fun j _ => l0[k].length - (intOf j).toNat)
          case atStart => exact ⟨0, Nat.zero_le _, rfl, ⟨by simpa [wordsT] using hB.out⟩⟩
          case round =>
            obtain ⟨m, hmle, rfl, hB3⟩ := hrel
            have hwl := wordsT_length (l0[k].take m) (List.all_eq_true.2 fun x hx => List.all_eq_true.1 hs x (List.mem_of_mem_take hx))
            rw [List.length_take] at hwl
            have hlen3 : (headF v l0.length ++ clausesT (l0.take k) ++ wordsT (l0[k].take m)).length ≤ 1048576 * (22 * 1048576 + 2) + 50 + 22 * 1048576 := by
              rw [List.length_append, List.length_append]; omega
            have hbw3 := Aside0.mk (hbw.trans (hB3.out.below.mono hbw.size))
            by_cases hmt : m < l0[k].length
            · obtain ⟨ad2, e2, hy⟩ := Kd.at_int (Kd.C_below HC1.out hbw3.out) (m : Int) (by omega) (by omega)
              subst e2
              rw [rd_nat hmt] at hy
              simp only [Int.toNat_natCast] at hy
              have hxr := litOk_range (List.all_eq_true.1 hs l0[k][m] (List.getElem_mem hmt))
              have hxl := Lib.itoa_length_le l0[k][m] (by omega) (by omega)
              go_wp2_with fail
              refine (strconv_Itoa_20.calls l0[k][m] _ _ (HE.out.below hbw3.out) (by unfold strconv_Itoa_20.f; exact if_pos (by omega))).mono ?_
              rintro e w5 ⟨rfl, hb5⟩
              have hB5 := Aside0.mk (hB3.out.on hb5)
              go_wp2_with fail
              refine (Bld.write hB5.out _ (by rw [show ∀ a b : ByteArray, (a ++ b).size = a.size + b.size from fun a b => ByteArray.size_append]; show _ + ((Lib.itoa l0[k][m]).length + 1) ≤ _; omega)).mono ?_
              rintro e w6 ⟨rfl, hb6, hk6⟩
              go_wp2_with fail
              go_roundw
              case rel => exact ⟨m + 1, by omega, by go_num, ⟨by rw [take_succ' hmt, wordsT_snoc, ← List.append_assoc]; simpa using hb6⟩⟩
              case measure => simp [intOf]; omega
            · obtain rfl : m = l0[k].length := by omega
              rw [List.take_length] at hB3
              go_wp2_with fail
              refine (Bld.write hB3.out _ (by rw [List.take_length] at hlen3; show _ + 2 ≤ _; omega)).mono ?_
              rintro e w6 ⟨rfl, hb6, hk6⟩
              go_wp2_with fail
              go_roundw
              case rel =>
                refine ⟨k + 1, by omega, by go_num, ⟨?_⟩⟩
                rw [take_succ' hlt, clausesT_snoc, clauseT, ← List.append_assoc, ← List.append_assoc]
                exact hb6
              case measure => simp [intOf]; omega
        · obtain rfl : k = l0.length := by omega
          rw [List.take_length] at hB
          go_wp2_with fail
          refine (Bld.string hB.out).mono ?_
          rintro e w' ⟨rfl, hb'⟩
          go_wp2_with fail
          go_ret2
          have hR : dimR v l0 = (⟨(formT v l0).toArray⟩, 0) := by
            unfold dimR
            rw [if_pos hok]
          rw [← HRR.out, hR]
          exact ⟨rfl, hbw2.out.trans (hb'.mono hbw.size)⟩

theorem dimacs_Write.calls (a0_0 : Int) (A0_1 : Option Addr) (c0_1 : Nat) (l0_1 : List (List Int)) (r1 : ByteArray) (r2 : Int) (w : World) (hr0_1 : Kd.C (Kd.slice 3 (Kd.int .i64)) w A0_1 l0_1.length l0_1) (hc0_1 : l0_1.length ≤ c0_1) (hE : Env w) (h : dimacs_Write.f a0_0 l0_1 = some (r1, r2)) :
    Calls Tryd.prog 15 #[.agg #[.int .i64 a0_0, .slice A0_1 l0_1.length c0_1]] w fun e w' => e = .returned (.tuple #[.string r1, .int .i64 r2]) ∧ Below w.heap.size w w' := by
  unfold dimacs_Write.f at h
  by_cases hh : l0_1.length ≤ 1048576 ∧ ∀ s ∈ l0_1, s.length ≤ 1048576
  · rw [if_pos hh] at h
    exact write_walk a0_0 A0_1 c0_1 l0_1 (r1, r2) w hr0_1 hc0_1 hE hh.1 hh.2 (Option.some.inj h)
  · rw [if_neg hh] at h
    cases h
end Go.Proofs.YtejdjmcdlbcmeaaDoor.P
end
