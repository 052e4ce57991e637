/- The pure law of PackEncodes: the program's and the reference's Encode make the same bytes of every list of steps, or refuse alike. No conditions. -/
import Derived.Test.YtooojhlndlebdaaRRRPx6
import Derived.Test.YtooojhlndlebdaaRRRPureTake
set_option linter.unusedVariables false
set_option linter.unusedSimpArgs false
namespace Go.Proofs.YtooojhlndlebdaaRRR.P
open Go.RowKit Go.Proofs.YtooojhlndlebdaaRRRW.PrintWords Go.Proofs.YtooojhlndlebdaaRRRW.PrintLast Go.Proofs.YtooojhlndlebdaaRRRW.PrintMore

theorem copyInts_l0 (l : List Int) (hl : l.length < 17592186044416) (d : Nat) : ∀ (k i : Nat), i ≤ l.length → l.length - i = d → d < k → depotref00_CopyInts.l0 k l (l.take i) (i : Int) = some l := by
  induction d with
  | zero =>
    intro k i h0 hd hk
    obtain ⟨k, rfl⟩ := succ_of hk
    rw [depotref00_CopyInts.l0, if_neg (by omega), List.take_of_length_le (by omega)]
  | succ d ih =>
    intro k i h0 hd hk
    obtain ⟨k, rfl⟩ := succ_of hk
    rw [depotref00_CopyInts.l0, if_pos (by omega), if_pos (by omega), if_pos (by rw [List.length_take]; omega), rd_nat (by omega), ← take_succ' (by omega), w64 (by omega) (by omega)]
    exact ih k (i + 1) (by omega) (by omega) (by omega)
theorem copyInts_is (l : List Int) (hl : l.length < 17592186044416) (k : Nat) (hk : l.length < k) : depotref00_CopyInts.f k l = some l := by
  unfold depotref00_CopyInts.f
  exact copyInts_l0 l hl l.length k 0 (by omega) (by omega) hk

theorem rdT_nat {xs : List S50} {n : Nat} (h : n < xs.length) : rd_T50 xs (n : Int) = xs[n] := by
  unfold rd_T50
  rw [Int.toNat_natCast, List.getD_eq_getElem?_getD, List.getElem?_eq_getElem h]
  rfl

theorem copySteps_l0 (l : List S50) (m : Nat) (hm : ∀ s ∈ l, s.f1.length ≤ m) (hm2 : m < 17592186044416) (hl : l.length < 4398046511104) (d : Nat) : ∀ (k i : Nat), i ≤ l.length → l.length - i = d → d + m + 1 < k → depotref00_CopySteps.l0 k l (l.take i) (i : Int) = some l := by
  induction d with
  | zero =>
    intro k i h0 hd hk
    obtain ⟨k, rfl⟩ := succ_of hk
    rw [depotref00_CopySteps.l0, if_neg (by omega), List.take_of_length_le (by omega)]
  | succ d ih =>
    intro k i h0 hd hk
    obtain ⟨k, rfl⟩ := succ_of hk
    have hs := hm l[i] (List.getElem_mem (by omega))
    rw [depotref00_CopySteps.l0, if_pos (by omega), if_pos (by omega), rdT_nat (by omega), copyInts_is _ (by omega) _ (by omega)]
    simp only [Option.bind_some]
    rw [if_pos (by rw [List.length_take]; omega)]
    have e : (⟨l[i].f0, l[i].f1⟩ : S50) = l[i] := rfl
    rw [e, ← take_succ' (by omega), w64 (by omega) (by omega)]
    exact ih k (i + 1) (by omega) (by omega) (by omega)
theorem copySteps_is (l : List S50) (m : Nat) (hm : ∀ s ∈ l, s.f1.length ≤ m) (hm2 : m < 17592186044416) (hl : l.length < 4398046511104) (k : Nat) (hk : l.length + m + 1 < k) : depotref00_CopySteps.f k l = some l := by
  unfold depotref00_CopySteps.f
  exact copySteps_l0 l m hm hm2 hl l.length k 0 (by omega) (by omega) hk

/-- Is it a literal? -/
def litOk (x : Int) : Bool := decide (x ≠ 0 ∧ -1048576 ≤ x ∧ x ≤ 1048576)
theorem formed_is (x : Int) : lits_Formed.f x = some (litOk x) := by
  unfold lits_Formed.f litOk
  by_cases h : x = 0
  · rw [if_pos h]; simp [h]
  · rw [if_neg h]
    by_cases h1 : x ≥ -1048576
    · rw [if_pos h1]; congr 1; rw [decide_eq_decide]; omega
    · rw [if_neg h1]; congr 1; symm; rw [decide_eq_false_iff_not]; omega
theorem refFormed_is (x : Int) : depotref01_Formed.f x = some (litOk x) := by
  unfold depotref01_Formed.f litOk
  by_cases h : x ≥ 1
  · rw [if_pos h]
    by_cases h1 : x ≤ 1048576
    · rw [if_pos h1]; congr 1; symm; rw [decide_eq_true_eq]; omega
    · rw [if_neg h1, if_pos (by omega)]; congr 1; rw [decide_eq_decide]; omega
  · rw [if_neg h]
    by_cases h1 : x ≥ -1048576
    · rw [if_pos h1]; congr 1; rw [decide_eq_decide]; omega
    · rw [if_neg h1]; congr 1; symm; rw [decide_eq_false_iff_not]; omega
/-- The variable of a literal; 0 of what is none. -/
def varOf (x : Int) : Nat := if litOk x then x.natAbs else 0
theorem varOf_le (x : Int) : varOf x ≤ 1048576 := by
  unfold varOf litOk
  split
  · rename_i h; simp at h; omega
  · omega
theorem var_is (x : Int) : lits_Var.f x = some ((varOf x : Nat) : Int) := by
  unfold lits_Var.f varOf
  rw [formed_is]
  simp only [Option.bind_some]
  cases h : litOk x with
  | false => simp
  | true =>
    simp only [litOk, decide_eq_true_eq] at h
    rw [if_pos rfl, if_pos rfl]
    by_cases h0 : x < 0
    · rw [if_pos h0, w64 (by omega) (by omega)]; congr 1; omega
    · rw [if_neg h0]; congr 1; omega
theorem refVar_is (x : Int) : depotref01_Var.f x = some ((varOf x : Nat) : Int) := by
  unfold depotref01_Var.f varOf
  rw [refFormed_is]
  simp only [Option.bind_some]
  cases h : litOk x with
  | false => simp
  | true =>
    simp only [litOk, decide_eq_true_eq] at h
    rw [if_pos rfl, if_pos rfl]
    by_cases h0 : x < 0
    · rw [if_pos h0, w64 (by omega) (by omega)]; congr 1; omega
    · rw [if_neg h0]; congr 1; omega
/-- The number of a literal. -/
def numOf (x : Int) : Nat := 2 * varOf x + if x < 0 then 1 else 0
theorem number_of_is (x : Int) : pack_number.f x = some ((numOf x : Nat) : Int) := by
  have hv := varOf_le x
  unfold pack_number.f numOf
  rw [var_is]
  simp only [Option.bind_some]
  rw [w64 (by omega) (by omega), wu64 (x := 2 * ((varOf x : Nat) : Int)) (by omega) (by omega)]
  by_cases h : x < 0
  · rw [if_pos h, if_pos h, wu64 (by omega) (by omega)]; rfl
  · rw [if_neg h, if_neg h]; rfl

theorem sound_l0 (l : List Int) (hl : l.length < 17592186044416) (d : Nat) : ∀ (k i : Nat), i ≤ l.length → l.length - i = d → d < k → lits_Sound.l0 k l (l.length : Int) (i : Int) = some ((l.drop i).all litOk) := by
  induction d with
  | zero =>
    intro k i h0 hd hk
    obtain ⟨k, rfl⟩ := succ_of hk
    rw [lits_Sound.l0, if_neg (by omega), List.drop_of_length_le (by omega)]
    rfl
  | succ d ih =>
    intro k i h0 hd hk
    obtain ⟨k, rfl⟩ := succ_of hk
    rw [lits_Sound.l0, if_pos (by omega), if_pos (by omega), if_pos (by omega), rd_nat (by omega), formed_is, List.drop_eq_getElem_cons (by omega), List.all_cons]
    simp only [Option.bind_some]
    cases h : litOk (l[i]'(by omega)) with
    | false => simp
    | true =>
      rw [if_pos rfl, w64 (by omega) (by omega)]
      simpa using ih k (i + 1) (by omega) (by omega) (by omega)
theorem sound_is (l : List Int) (hl : l.length < 17592186044416) (k : Nat) (hk : l.length < k) : lits_Sound.f k l = some (l.all litOk) := by
  unfold lits_Sound.f
  exact sound_l0 l hl l.length k 0 (by omega) (by omega) hk
theorem refSound_l0 (l : List Int) (hl : l.length < 17592186044416) (d : Nat) : ∀ (k i : Nat), i ≤ l.length → l.length - i = d → d < k → depotref01_Sound.l0 k l (i : Int) = some ((l.drop i).all litOk) := by
  induction d with
  | zero =>
    intro k i h0 hd hk
    obtain ⟨k, rfl⟩ := succ_of hk
    rw [depotref01_Sound.l0, if_neg (by omega), List.drop_of_length_le (by omega)]
    rfl
  | succ d ih =>
    intro k i h0 hd hk
    obtain ⟨k, rfl⟩ := succ_of hk
    rw [depotref01_Sound.l0, if_pos (by omega), if_pos (by omega), rd_nat (by omega), refFormed_is, List.drop_eq_getElem_cons (by omega), List.all_cons]
    simp only [Option.bind_some]
    cases h : litOk (l[i]'(by omega)) with
    | false => simp
    | true =>
      rw [if_pos rfl, w64 (by omega) (by omega)]
      simpa using ih k (i + 1) (by omega) (by omega) (by omega)
theorem refSound_is (l : List Int) (hl : l.length < 17592186044416) (k : Nat) (hk : l.length < k) : depotref01_Sound.f k l = some (l.all litOk) := by
  unfold depotref01_Sound.f
  exact refSound_l0 l hl l.length k 0 (by omega) (by omega) hk

/-! ### the bytes of steps -/
def numI (n : Nat) : List Int := (numF 10 n).map fun n : Nat => (n : Int)
theorem numI_length (n : Nat) : (numI n).length ≤ 10 := by
  have := numF_length 10 n
  simpa [numI] using this
def litsB (l : List Int) : List Int := l.flatMap fun x => numI (numOf x)
def stepB (s : S50) : List Int := (if s.f0 then 100 else 97) :: litsB s.f1 ++ [0]
def stepsB (l : List S50) : List Int := l.flatMap stepB
theorem litsB_length (l : List Int) : (litsB l).length ≤ 10 * l.length := by
  induction l with
  | nil => simp [litsB]
  | cons x l ih =>
    have := numI_length (numOf x)
    simp only [litsB, List.flatMap_cons, List.length_append, List.length_cons] at ih ⊢
    omega
theorem litsB_snoc (l : List Int) (x : Int) : litsB (l ++ [x]) = litsB l ++ numI (numOf x) := by
  unfold litsB; rw [List.flatMap_append]; simp
theorem stepsB_snoc (l : List S50) (s : S50) : stepsB (l ++ [s]) = stepsB l ++ stepB s := by
  unfold stepsB; rw [List.flatMap_append]; simp
theorem numOf_le (x : Int) : numOf x ≤ 18446744073709551615 := by
  have := varOf_le x
  unfold numOf
  split <;> omega

theorem numI_is (x : Int) : pack_Number.f ((numOf x : Nat) : Int) = some (numI (numOf x)) := number_is _ (numOf_le x)
theorem refNumI_is (x : Int) (k : Nat) (hk : 9 < k) : depotref10_Number.f k ((numOf x : Nat) : Int) = some (numI (numOf x)) := refNumber_is _ (numOf_le x) k hk

/-- The loop over one step's literals, in the program: it goes on behind them. -/
theorem enc_l1 (L : List S50) (t : Nat) (c : List Int) (r : Option (List Int × Int)) (K : Nat) (out0 : List Int) (hroom : out0.length + 10 * c.length + 1 < 140737488355328) (hr : ∀ k, K < k → pack_Encode.l0 k (out0 ++ litsB c ++ [0]) L (L.length : Int) (wrap64 ((t : Int) + 1)) = r) (d : Nat) :
    ∀ (k i : Nat), i ≤ c.length → c.length - i = d → d + K + 1 < k → pack_Encode.l1 k (out0 ++ litsB (c.take i)) L (L.length : Int) (t : Int) c (c.length : Int) (i : Int) = r := by
  induction d with
  | zero =>
    intro k i h0 hd hk
    obtain ⟨k, rfl⟩ := succ_of hk
    have hlen := litsB_length c
    rw [pack_Encode.l1, if_neg (by omega), List.take_of_length_le (by omega), if_pos (by rw [List.length_append]; omega)]
    exact hr k (by omega)
  | succ d ih =>
    intro k i h0 hd hk
    obtain ⟨k, rfl⟩ := succ_of hk
    have hlen := litsB_length (c.take i)
    rw [List.length_take] at hlen
    have hn := numI_length (numOf (c[i]'(by omega)))
    have e : out0 ++ litsB (c.take i) ++ numI (numOf (c[i]'(by omega))) = out0 ++ litsB (c.take (i + 1)) := by
      rw [take_succ' (by omega), litsB_snoc, List.append_assoc]
    rw [pack_Encode.l1, if_pos (by omega), if_pos (by omega), if_pos (by omega), rd_nat (by omega), number_of_is]
    simp only [Option.bind_some]
    rw [numI_is]
    simp only [Option.bind_some]
    have hroom' : (out0 ++ litsB (c.take i)).length + (numI (numOf (c[i]'(by omega)))).length < 140737488355328 := by rw [List.length_append]; omega
    rw [if_pos hroom']
    rw [e, w64 (by omega) (by omega)]
    exact ih k (i + 1) (by omega) (by omega) (by omega)

/-- The same in the reference. -/
theorem ref_l1 (L : List S50) (t : Nat) (ht : t < L.length) (r : Option (List Int × Int)) (K : Nat) (out0 : List Int) (hc : L[t].f1.length < 17592186044416) (hroom : out0.length + 10 * L[t].f1.length + 1 < 140737488355328) (hr : ∀ k, K < k → depotref10_Encode.l0 k L (out0 ++ litsB L[t].f1 ++ [0]) (wrap64 ((t : Int) + 1)) = r) (d : Nat) :
    ∀ (k i : Nat), i ≤ L[t].f1.length → L[t].f1.length - i = d → d + K + 12 < k → depotref10_Encode.l1 k L (out0 ++ litsB (L[t].f1.take i)) (t : Int) (i : Int) = r := by
  induction d with
  | zero =>
    intro k i h0 hd hk
    obtain ⟨k, rfl⟩ := succ_of hk
    have hlen := litsB_length L[t].f1
    rw [depotref10_Encode.l1, if_pos (by omega), if_pos (by omega), rdT_nat ht, if_neg (by omega), List.take_of_length_le (by omega), if_pos (by rw [List.length_append]; omega)]
    exact hr k (by omega)
  | succ d ih =>
    intro k i h0 hd hk
    obtain ⟨k, rfl⟩ := succ_of hk
    have hlen := litsB_length (L[t].f1.take i)
    rw [List.length_take] at hlen
    have hn := numI_length (numOf (L[t].f1[i]'(by omega)))
    have e : out0 ++ litsB (L[t].f1.take i) ++ numI (numOf (L[t].f1[i]'(by omega))) = out0 ++ litsB (L[t].f1.take (i + 1)) := by
      rw [take_succ' (by omega), litsB_snoc, List.append_assoc]
    have hroom' : (out0 ++ litsB (L[t].f1.take i)).length + (numI (numOf (L[t].f1[i]'(by omega)))).length < 140737488355328 := by rw [List.length_append]; omega
    have fin : (if (out0 ++ litsB (L[t].f1.take i)).length + (numI (numOf (L[t].f1[i]'(by omega)))).length < 140737488355328 then depotref10_Encode.l1 k L (out0 ++ litsB (L[t].f1.take i) ++ numI (numOf (L[t].f1[i]'(by omega)))) (t : Int) (wrap64 ((i : Int) + 1)) else none) = r := by
      rw [if_pos hroom', e, w64 (by omega) (by omega)]
      exact ih k (i + 1) (by omega) (by omega) (by omega)
    have hv := varOf_le (L[t].f1[i]'(by omega))
    rw [depotref10_Encode.l1, if_pos (by omega), if_pos (by omega), rdT_nat ht, if_pos (by omega), if_pos (by omega), rd_nat (by omega), refVar_is]
    simp only [Option.bind_some]
    rw [w64 (by omega) (by omega), wu64 (x := 2 * ((varOf (L[t].f1[i]'(by omega)) : Nat) : Int)) (by omega) (by omega)]
    by_cases h : L[t].f1[i]'(by omega) < 0
    · have en : IntKind.u64.wrap (2 * ((varOf (L[t].f1[i]'(by omega)) : Nat) : Int) + 1) = ((numOf (L[t].f1[i]'(by omega)) : Nat) : Int) := by
        rw [wu64 (by omega) (by omega)]; unfold numOf; rw [if_pos h]; rfl
      rw [if_pos h, en, refNumI_is _ _ (by omega)]
      exact fin
    · have en : 2 * ((varOf (L[t].f1[i]'(by omega)) : Nat) : Int) = ((numOf (L[t].f1[i]'(by omega)) : Nat) : Int) := by
        unfold numOf; rw [if_neg h]; rfl
      rw [if_neg h, en, refNumI_is _ _ (by omega)]
      exact fin

/-- What both come to. -/
def encR (l : List S50) : List Int × Int := if l.all (fun s => s.f1.all litOk) then (stepsB l, 0) else ([], 1)

theorem stepsB_length (l : List S50) (m : Nat) (hm : ∀ s ∈ l, s.f1.length ≤ m) : (stepsB l).length ≤ l.length * (10 * m + 2) := by
  induction l with
  | nil => simp [stepsB]
  | cons s l ih =>
    have h1 := ih (fun s hs => hm s (List.mem_cons_of_mem _ hs))
    have h2 := hm s List.mem_cons_self
    have h3 := litsB_length s.f1
    simp only [stepsB, List.flatMap_cons, List.length_append, List.length_cons] at h1 ⊢
    have : (stepB s).length ≤ 10 * m + 2 := by simp [stepB]; omega
    rw [Nat.add_mul]
    omega

theorem encode_both (l : List S50) (m B : Nat) (hm : ∀ s ∈ l, s.f1.length ≤ m) (hm2 : m ≤ 1048576) (hl : l.length ≤ 1048576) (hB : l.length * (10 * m + 2) ≤ B) (hB2 : B ≤ 20000000000000) (d : Nat) : ∀ (i : Nat) , i ≤ l.length → l.length - i = d → (∀ s ∈ l.take i, s.f1.all litOk = true) →
    (∀ k, d * (m + 20) + 2 < k → pack_Encode.l0 k (stepsB (l.take i)) l (l.length : Int) (i : Int) = some (encR l)) ∧ (∀ k, d * (m + 20) + 2 < k → depotref10_Encode.l0 k l (stepsB (l.take i)) (i : Int) = some (encR l)) := by
  induction d with
  | zero =>
    intro i h0 hd hs
    rw [List.take_of_length_le (by omega)] at hs ⊢
    have e : encR l = (stepsB l, 0) := by
      unfold encR
      rw [if_pos (List.all_eq_true.2 hs)]
    refine ⟨fun k hk => ?_, fun k hk => ?_⟩
    · obtain ⟨k, rfl⟩ := succ_of hk
      rw [pack_Encode.l0, if_neg (by omega), e]
    · obtain ⟨k, rfl⟩ := succ_of hk
      rw [depotref10_Encode.l0, if_neg (by omega), e]
  | succ d ih =>
    intro i h0 hd hs
    have hlt : i < l.length := by omega
    have hsm := hm l[i] (List.getElem_mem hlt)
    have hlen := stepsB_length (l.take i) m (fun s h => hm s (List.mem_of_mem_take h))
    have hlen2 : (stepsB (l.take i)).length ≤ B := Nat.le_trans hlen (Nat.le_trans (Nat.mul_le_mul_right _ (List.length_take_le' _ _)) hB)
    clear hlen hB
    have hsucc : (d + 1) * (m + 20) = d * (m + 20) + (m + 20) := by rw [Nat.add_mul, Nat.one_mul]
    have hwi := Aside0.mk (show wrap64 ((i : Int) + 1) = ((i + 1 : Nat) : Int) by rw [w64 (by omega) (by omega)]; omega)
    cases hb : l[i].f1.all litOk with
    | false =>
      have e : encR l = ([], 1) := by
        unfold encR
        rw [if_neg]
        intro h
        have := List.all_eq_true.1 h l[i] (List.getElem_mem hlt)
        rw [hb] at this
        cases this
      refine ⟨fun k hk => ?_, fun k hk => ?_⟩
      · obtain ⟨k, rfl⟩ := succ_of hk
        rw [pack_Encode.l0, if_pos (by omega), if_pos (by omega), if_pos (by omega), rdT_nat hlt, sound_is _ (by omega) _ (by omega), hb]
        simp only [Option.bind_some]
        rw [if_neg (by decide), e]
      · obtain ⟨k, rfl⟩ := succ_of hk
        rw [depotref10_Encode.l0, if_pos (by omega), if_pos (by omega), rdT_nat hlt, refSound_is _ (by omega) _ (by omega), hb]
        simp only [Option.bind_some]
        rw [if_neg (by decide), e]
    | true =>
      have hs' : ∀ s ∈ l.take (i + 1), s.f1.all litOk = true := by
        intro s h
        rw [take_succ' hlt, List.mem_append, List.mem_singleton] at h
        rcases h with h | rfl
        · exact hs s h
        · exact hb
      obtain ⟨h1, h2⟩ := ih (i + 1) (by omega) (by omega) hs'
      have e : ∀ c : Int, c = (if l[i].f0 then 100 else 97) → stepsB (l.take i) ++ [c] ++ litsB l[i].f1 ++ [0] = stepsB (l.take (i + 1)) := by
        rintro c rfl
        rw [take_succ' hlt, stepsB_snoc, stepB]
        simp
      have a1 : ∀ (c : Int) (k : Nat), c = (if l[i].f0 then 100 else 97) → d * (m + 20) + m + 5 < k → pack_Encode.j1 k (stepsB (l.take i)) c l (l.length : Int) (i : Int) l[i].f0 l[i].f1 = some (encR l) := by
        intro c k hc hk
        obtain ⟨k, rfl⟩ := succ_of hk
        rw [pack_Encode.j1, if_pos (by omega)]
        have := enc_l1 l i l[i].f1 (some (encR l)) (d * (m + 20) + 2) (stepsB (l.take i) ++ [c]) (by simp; omega) (fun k hk => by rw [e c hc, hwi.out]; exact h1 k hk) l[i].f1.length k 0 (by omega) (by omega) (by omega)
        simpa [litsB] using this
      have a2 : ∀ (c : Int) (k : Nat), c = (if l[i].f0 then 100 else 97) → d * (m + 20) + m + 16 < k → depotref10_Encode.j1 k l (stepsB (l.take i)) (i : Int) c = some (encR l) := by
        intro c k hc hk
        obtain ⟨k, rfl⟩ := succ_of hk
        rw [depotref10_Encode.j1, if_pos (by omega)]
        have := ref_l1 l i hlt (some (encR l)) (d * (m + 20) + 2) (stepsB (l.take i) ++ [c]) (by omega) (by simp; omega) (fun k hk => by rw [e c hc, hwi.out]; exact h2 k hk) l[i].f1.length k 0 (by omega) (by omega) (by omega)
        simpa [litsB] using this
      refine ⟨fun k hk => ?_, fun k hk => ?_⟩
      · obtain ⟨k, rfl⟩ := succ_of hk
        rw [pack_Encode.l0, if_pos (by omega), if_pos (by omega), if_pos (by omega), rdT_nat hlt, sound_is _ (by omega) _ (by omega), hb]
        simp only [Option.bind_some]
        rw [if_pos trivial]
        cases hf : l[i].f0 with
        | true => rw [if_pos rfl]; have := a1 100 k (by rw [hf]; rfl) (by omega); rw [hf] at this; exact this
        | false => rw [if_neg (by decide)]; have := a1 97 k (by rw [hf]; rfl) (by omega); rw [hf] at this; exact this
      · obtain ⟨k, rfl⟩ := succ_of hk
        rw [depotref10_Encode.l0, if_pos (by omega), if_pos (by omega), rdT_nat hlt, refSound_is _ (by omega) _ (by omega), hb]
        simp only [Option.bind_some]
        rw [if_pos trivial]
        cases hf : l[i].f0 with
        | true => rw [if_pos rfl]; exact a2 100 k (by rw [hf]; rfl) (by omega)
        | false => rw [if_neg (by decide)]; exact a2 97 k (by rw [hf]; rfl) (by omega)

/-- The statement PackEncodes, over lists and numbers. -/
theorem encode_f (l : List S50) (m B : Nat) (hm : ∀ s ∈ l, s.f1.length ≤ m) (hm2 : m ≤ 1048576) (hl : l.length ≤ 1048576) (hB : l.length * (10 * m + 2) ≤ B) (hB2 : B ≤ 20000000000000) (k : Nat) (hk : l.length * (m + 20) + 2 < k) :
    pack_Encode.f k l = some (encR l) ∧ depotref10_Encode.f k l = some (encR l) := by
  obtain ⟨h1, h2⟩ := encode_both l m B hm hm2 hl hB hB2 l.length 0 (by omega) (by omega) (by simp)
  exact ⟨h1 k hk, h2 k hk⟩
theorem packEncodes_pure (l : List S50) (hm : ∀ s ∈ l, s.f1.length ≤ 1048576) (hl : l.length ≤ 1048576) : ∃ k, depotlaw10_PackEncodes.f k l = some true := by
  have hB : l.length * (10 * 1048576 + 2) ≤ 20000000000000 := by omega
  have hlen := Nat.le_trans (stepsB_length l 1048576 hm) hB
  have hlenR : (encR l).1.length ≤ 20000000000000 := by
    unfold encR
    split
    · exact hlen
    · simp
  obtain ⟨M, hM⟩ : ∃ M : Nat, l.length * (1048576 + 20) + 2 = M := ⟨_, rfl⟩
  obtain ⟨K, hK, hK2⟩ : ∃ K : Nat, M < K ∧ 20000003000000 < K := ⟨M + 20000003000001, by omega, by omega⟩
  refine ⟨K, ?_⟩
  have hK1 : l.length * (1048576 + 20) + 2 < K := by rw [hM]; exact hK
  clear hM
  obtain ⟨e1, e2⟩ := encode_f l 1048576 20000000000000 hm (Nat.le_refl _) hl hB (Nat.le_refl _) K hK1
  rw [depotlaw10_PackEncodes.f, copySteps_is l 1048576 hm (by omega) (by omega) _ (by omega)]
  simp only [Option.bind_some]
  rw [e1]
  simp only [Option.bind_some]
  rw [e2]
  simp only [Option.bind_some]
  rw [if_pos trivial, same_is _ (by omega) _ (by omega)]
  rfl

end Go.Proofs.YtooojhlndlebdaaRRR.P
