/- Copies, the formula's shape and the comparison of a formula with itself, for the laws that write and read. No conditions. -/
import Derived.Test.YtejdjmcdlbcmeaaDoorTx2
import Derived.Test.YtejdjmcdlbcmeaaDoorBackD
import Derived.Test.YtejdjmcdlbcmeaaDoorArgs
set_option linter.unusedVariables false
set_option linter.unusedSimpArgs false
namespace Go.Proofs.YtejdjmcdlbcmeaaDoor.T
open Go.RowKit Go.Lib Go.Proofs.YtejdjmcdlbcmeaaDoorW.PrintWords Go.Proofs.YtejdjmcdlbcmeaaDoorW.PrintLast Go.Proofs.YtejdjmcdlbcmeaaDoorW.PrintMore
open Go.Proofs.YtejdjmcdlbcmeaaDoor.P (wordsT clauseT clausesT headF formT litOk inV clauseOk formOk dimR)

theorem w64d {x : Int} (h0 : -9223372036854775808 ≤ x) (h1 : x ≤ 9223372036854775807) : wrap64 x = x := by
  unfold wrap64; omega
theorem succ_ofd {k d : Nat} (h : d < k) : ∃ m, k = m + 1 := ⟨k - 1, by omega⟩
theorem rd_natd {xs : List Int} {n : Nat} (h : n < xs.length) : rd xs (n : Int) = xs[n] := by
  unfold rd
  rw [Int.toNat_natCast, List.getD_eq_getElem?_getD, List.getElem?_eq_getElem h]
  rfl
theorem take_succd {α : Type} {xs : List α} {n : Nat} (h : n < xs.length) : xs.take (n + 1) = xs.take n ++ [xs[n]] := by
  rw [List.take_succ_eq_append_getElem h]
theorem rdL1_nat {xs : List (List Int)} {n : Nat} (h : n < xs.length) : rd_L1 xs (n : Int) = xs[n] := by
  unfold rd_L1
  rw [Int.toNat_natCast, List.getD_eq_getElem?_getD, List.getElem?_eq_getElem h]
  rfl
theorem copyInts_l0 (l : List Int) (hl : l.length < 17592186044416) (d : Nat) : ∀ (k i : Nat), i ≤ l.length → l.length - i = d → d < k → depotref00_CopyInts.l0 k l (l.take i) (i : Int) = some l := by
  induction d with
  | zero =>
    intro k i h0 hd hk
    obtain ⟨k, rfl⟩ := succ_ofd hk
    rw [depotref00_CopyInts.l0, if_neg (by omega), List.take_of_length_le (by omega)]
  | succ d ih =>
    intro k i h0 hd hk
    obtain ⟨k, rfl⟩ := succ_ofd hk
    rw [depotref00_CopyInts.l0, if_pos (by omega), if_pos (by omega), if_pos (by rw [List.length_take]; omega), rd_natd (by omega), ← take_succd (by omega), w64d (by omega) (by omega)]
    exact ih k (i + 1) (by omega) (by omega) (by omega)
theorem copyInts_is (l : List Int) (hl : l.length < 17592186044416) (k : Nat) (hk : l.length < k) : depotref00_CopyInts.f k l = some l := by
  unfold depotref00_CopyInts.f
  exact copyInts_l0 l hl l.length k 0 (by omega) (by omega) hk
theorem copyClauses_l0 (l : List (List Int)) (m : Nat) (hm : ∀ c ∈ l, c.length ≤ m) (hm2 : m < 17592186044416) (hl : l.length < 4398046511104) (d : Nat) : ∀ (k i : Nat), i ≤ l.length → l.length - i = d → d + m + 1 < k → depotref00_CopyClauses.l0 k l (l.take i) (i : Int) = some l := by
  induction d with
  | zero =>
    intro k i h0 hd hk
    obtain ⟨k, rfl⟩ := succ_ofd hk
    rw [depotref00_CopyClauses.l0, if_neg (by omega), List.take_of_length_le (by omega)]
  | succ d ih =>
    intro k i h0 hd hk
    obtain ⟨k, rfl⟩ := succ_ofd hk
    have hs := hm l[i] (List.getElem_mem (by omega))
    rw [depotref00_CopyClauses.l0, if_pos (by omega), if_pos (by omega), rdL1_nat (by omega), copyInts_is _ (by omega) _ (by omega)]
    simp only [Option.bind_some]
    rw [if_pos (by rw [List.length_take]; omega), ← take_succd (by omega), w64d (by omega) (by omega)]
    exact ih k (i + 1) (by omega) (by omega) (by omega)
theorem copyFormula_is (v : Int) (l : List (List Int)) (m : Nat) (hm : ∀ c ∈ l, c.length ≤ m) (hm2 : m < 17592186044416) (hl : l.length < 4398046511104) (k : Nat) (hk : l.length + m + 1 < k) : depotref00_CopyFormula.f k v l = some (v, l) := by
  unfold depotref00_CopyFormula.f depotref00_CopyClauses.f
  have := copyClauses_l0 l m hm hm2 hl l.length k 0 (by omega) (by omega) hk
  rw [show (0 : Int) = ((0 : Nat) : Int) from rfl, show ([] : List (List Int)) = l.take 0 from rfl, this]
  rfl
theorem sameInts_l0 (l : List Int) (hl : l.length ≤ 4398046511104) (d : Nat) : ∀ (k i : Nat), i ≤ l.length → l.length - i = d → d < k → depotref00_SameInts.l0 k l l (i : Int) = some true := by
  induction d with
  | zero =>
    intro k i h0 hd hk
    obtain ⟨k, rfl⟩ := succ_ofd hk
    rw [depotref00_SameInts.l0, if_neg (by omega)]
  | succ d ih =>
    intro k i h0 hd hk
    obtain ⟨k, rfl⟩ := succ_ofd hk
    rw [depotref00_SameInts.l0, if_pos (by omega), if_pos (by omega), if_pos (by omega), if_pos rfl, w64d (by omega) (by omega)]
    exact ih k (i + 1) (by omega) (by omega) (by omega)
theorem sameInts_self (l : List Int) (hl : l.length ≤ 4398046511104) (k : Nat) (hk : l.length < k) : depotref00_SameInts.f k l l = some true := by
  unfold depotref00_SameInts.f
  rw [if_pos rfl]
  exact sameInts_l0 l hl l.length k 0 (by omega) (by omega) hk
theorem sameClauses_l0 (l : List (List Int)) (m : Nat) (hm : ∀ c ∈ l, c.length ≤ m) (hm2 : m ≤ 4398046511104) (hl : l.length < 4398046511104) (d : Nat) : ∀ (k i : Nat), i ≤ l.length → l.length - i = d → d + m + 1 < k → depotref00_SameClauses.l0 k l l (i : Int) = some true := by
  induction d with
  | zero =>
    intro k i h0 hd hk
    obtain ⟨k, rfl⟩ := succ_ofd hk
    rw [depotref00_SameClauses.l0, if_neg (by omega)]
  | succ d ih =>
    intro k i h0 hd hk
    obtain ⟨k, rfl⟩ := succ_ofd hk
    have hs := hm l[i] (List.getElem_mem (by omega))
    rw [depotref00_SameClauses.l0, if_pos (by omega), if_pos (by omega), if_pos (by omega), rdL1_nat (by omega), sameInts_self _ (by omega) _ (by omega)]
    simp only [Option.bind_some]
    rw [if_pos trivial, w64d (by omega) (by omega)]
    exact ih k (i + 1) (by omega) (by omega) (by omega)
theorem sameFormula_self (v : Int) (l : List (List Int)) (m : Nat) (hm : ∀ c ∈ l, c.length ≤ m) (hm2 : m ≤ 4398046511104) (hl : l.length < 4398046511104) (k : Nat) (hk : l.length + m + 1 < k) : depotref00_SameFormula.f k v l v l = some true := by
  unfold depotref00_SameFormula.f depotref00_SameClauses.f
  have := sameClauses_l0 l m hm hm2 hl l.length k 0 (by omega) (by omega) hk
  rw [if_pos rfl, if_pos rfl, show (0 : Int) = ((0 : Nat) : Int) from rfl, this]
  rfl
/-- What `shaped` asks of a number. -/
def okV (v x : Int) : Bool := decide (x ≠ 0 ∧ x ≤ v ∧ -v ≤ x)
theorem okV_is {v : Int} (h1 : v ≤ 1048576) (x : Int) : okV v x = (litOk x && inV v x) := by
  unfold okV litOk inV
  rw [← Bool.decide_and, decide_eq_decide]
  omega
theorem clauseOk_all {v : Int} (h1 : v ≤ 1048576) (c : List Int) : c.all (okV v) = clauseOk v c := by
  unfold clauseOk
  induction c with
  | nil => rfl
  | cons x c ih =>
    simp only [List.all_cons]
    rw [ih, okV_is h1]
    cases litOk x <;> cases inV v x <;> cases c.all litOk <;> cases c.all (inV v) <;> rfl
theorem shaped_l1 (v : Int) (l : List (List Int)) (i : Nat) (hi : i < l.length) (h0 : 0 ≤ v) (h1 : v ≤ 1048576) (hm : (l[i]'hi).length < 4398046511104) (q d : Nat) : ∀ j : Nat, j ≤ (l[i]'hi).length → (l[i]'hi).length - j = d →
    depotlaw03_shaped.l1 (d + 1 + q) (i : Int) (j : Int) v l = if ((l[i]'hi).drop j).all (okV v) = true then depotlaw03_shaped.l0 q (wrap64 ((i : Int) + 1)) v l else some false := by
  induction d with
  | zero =>
    intro j hj hd
    rw [show 0 + 1 + q = q + 1 by omega, depotlaw03_shaped.l1, if_pos (by omega), if_pos (by omega), rdL1_nat hi, if_neg (by omega), List.drop_of_length_le (by omega)]
    rfl
  | succ d ih =>
    intro j hj hd
    have hd2 := List.drop_eq_getElem_cons (l := l[i]'hi) (i := j) (by omega)
    have hrd : rd (l[i]'hi) (j : Int) = (l[i]'hi)[j]'(by omega) := rd_natd (by omega)
    have hih := ih (j + 1) (by omega) (by omega)
    rw [show d + 1 + 1 + q = (d + 1 + q) + 1 by omega, depotlaw03_shaped.l1, if_pos (by omega), if_pos (by omega), rdL1_nat hi, if_pos (by omega), if_pos (by omega), hrd, hd2, List.all_cons]
    generalize (l[i]'hi)[j]'(by omega) = x
    rw [w64d (x := -v) (by omega) (by omega), w64d (x := (j : Int) + 1) (by omega) (by omega)]
    by_cases hx : okV v x = true
    · have := of_decide_eq_true hx
      rw [if_neg this.1, if_neg (by omega), if_neg (by omega), hx, Bool.true_and]
      exact hih
    · rw [Bool.not_eq_true] at hx
      have := of_decide_eq_false hx
      rw [hx, Bool.false_and, if_neg (by decide : ¬ false = true)]
      by_cases a : x = 0
      · rw [if_pos a]
      · rw [if_neg a]
        by_cases b : x > v
        · rw [if_pos b]
        · rw [if_neg b, if_pos (by omega)]
theorem shaped_l0 (v : Int) (l : List (List Int)) (h0 : 0 ≤ v) (h1 : v ≤ 1048576) (m : Nat) (hm : ∀ c ∈ l, c.length ≤ m) (hm2 : m < 4398046511104) (hl : l.length < 4398046511104) (d : Nat) : ∀ (k i : Nat), i ≤ l.length → l.length - i = d → d * (m + 2) < k →
    depotlaw03_shaped.l0 k (i : Int) v l = some ((l.drop i).all (clauseOk v)) := by
  induction d with
  | zero =>
    intro k i hi hd hk
    obtain ⟨k, rfl⟩ := succ_ofd hk
    rw [depotlaw03_shaped.l0, if_neg (by omega), List.drop_of_length_le (by omega)]
    rfl
  | succ d ih =>
    intro k i hi hd hk
    obtain ⟨k, rfl⟩ := succ_ofd hk
    have hi' : i < l.length := by omega
    have hs := hm (l[i]'hi') (List.getElem_mem hi')
    rw [Nat.succ_mul] at hk
    obtain ⟨q, hq⟩ : ∃ q, k = (l[i]'hi').length + 1 + q := ⟨k - ((l[i]'hi').length + 1), by omega⟩
    have h := shaped_l1 v l i hi' h0 h1 (by omega) q (l[i]'hi').length 0 (by omega) (by omega)
    rw [← hq, List.drop_zero, clauseOk_all h1, w64d (by omega) (by omega)] at h
    rw [depotlaw03_shaped.l0, if_pos (by omega), List.drop_eq_getElem_cons hi', List.all_cons]
    refine h.trans ?_
    cases hc : clauseOk v (l[i]'hi') with
    | false => rfl
    | true =>
      rw [if_pos rfl, Bool.true_and]
      exact ih q (i + 1) (by omega) (by omega) (by omega)
theorem shaped_is (v : Int) (l : List (List Int)) (m : Nat) (hm : ∀ c ∈ l, c.length ≤ m) (hm2 : m < 4398046511104) (hl : l.length < 4398046511104) (k : Nat) (hk : l.length * (m + 2) + 1 < k) : depotlaw03_shaped.f k v l = some (formOk v l) := by
  obtain ⟨k, rfl⟩ := succ_ofd hk
  unfold depotlaw03_shaped.f formOk
  by_cases h0 : v < 0
  · rw [if_pos h0, depotlaw03_shaped.j0, if_pos rfl, decide_eq_false (by omega)]; rfl
  · rw [if_neg h0, depotlaw03_shaped.j0]
    by_cases h1 : v > 1048576
    · rw [decide_eq_true h1, if_pos rfl, decide_eq_false (by omega)]; rfl
    · rw [decide_eq_false h1, if_neg (by decide), decide_eq_true (by omega)]
      have := shaped_l0 v l (by omega) (by omega) m hm hm2 hl l.length k 0 (by omega) (by omega) (by omega)
      simpa using this
/-- The text's length by the formula's bulk. -/
theorem clausesT_mass (l : List (List Int)) (h : ∀ s ∈ l, s.all litOk = true) : (clausesT l).length ≤ 22 * Args.massL (fun c : List Int => c.length + 1) l := by
  induction l with
  | nil => simp [clausesT]
  | cons s l ih =>
    have h1 := ih (fun s hs => h s (List.mem_cons_of_mem _ hs))
    have h3 := P.wordsT_length s (h s List.mem_cons_self)
    simp only [clausesT, List.flatMap_cons, List.length_append, List.length_cons, clauseT, List.length_nil, Args.massL] at h1 ⊢
    omega
theorem formT_mass (v : Int) (l : List (List Int)) (h : formOk v l = true) (hb : Args.massL (fun c : List Int => c.length + 1) l ≤ 1048576) : (formT v l).length ≤ 30000000 := by
  have hp := P.formOk_parts h
  have hl : l.length ≤ 1048576 := by
    have := Args.massL_len (m := fun c : List Int => c.length + 1) (fun _ => Nat.le_add_left _ _) l
    omega
  have h1 := P.headF_length v l.length hp.1 hp.2.1 hl
  have h2 := clausesT_mass l hp.2.2
  unfold formT
  rw [List.length_append]
  omega
end Go.Proofs.YtejdjmcdlbcmeaaDoor.T
