/- The pure law of DratWrites: the program's and the reference's Write make the same text of every list of steps, or refuse alike. No conditions. -/
import Derived.Test.YtooojhlndlebdaaRRRDoorRRRRPx2
set_option linter.unusedVariables false
set_option linter.unusedSimpArgs false
namespace Go.Proofs.YtooojhlndlebdaaRRRDoorRRRR.P
open Go.RowKit Go.Proofs.YtooojhlndlebdaaRRRDoorRRRRW.PrintWords Go.Proofs.YtooojhlndlebdaaRRRDoorRRRRW.PrintLast Go.Proofs.YtooojhlndlebdaaRRRDoorRRRRW.PrintMore

theorem copySteps_l0 (l : List S33) (m : Nat) (hm : ∀ s ∈ l, s.f1.length ≤ m) (hm2 : m < 17592186044416) (hl : l.length < 4398046511104) (d : Nat) : ∀ (k i : Nat), i ≤ l.length → l.length - i = d → d + m + 1 < k → depotref00_CopySteps.l0 k l (l.take i) (i : Int) = some l := by
  induction d with
  | zero =>
    intro k i h0 hd hk
    obtain ⟨k, rfl⟩ := succ_of hk
    rw [depotref00_CopySteps.l0, if_neg (by omega), List.take_of_length_le (by omega)]
  | succ d ih =>
    intro k i h0 hd hk
    obtain ⟨k, rfl⟩ := succ_of hk
    have hs := hm l[i] (List.getElem_mem (by omega))
    rw [depotref00_CopySteps.l0, if_pos (by omega), if_pos (by omega), rdT_nat (by omega), copyInts_is _ (by omega) _ (by omega)]
    simp only [Option.bind_some]
    rw [if_pos (by rw [List.length_take]; omega)]
    have e : (⟨l[i].f0, l[i].f1⟩ : S33) = l[i] := rfl
    rw [e, ← take_succ' (by omega), w64 (by omega) (by omega)]
    exact ih k (i + 1) (by omega) (by omega) (by omega)
theorem copySteps_is (l : List S33) (m : Nat) (hm : ∀ s ∈ l, s.f1.length ≤ m) (hm2 : m < 17592186044416) (hl : l.length < 4398046511104) (k : Nat) (hk : l.length + m + 1 < k) : depotref00_CopySteps.f k l = some l := by
  unfold depotref00_CopySteps.f
  exact copySteps_l0 l m hm hm2 hl l.length k 0 (by omega) (by omega) hk

/-- Bytes as numbers. -/
def nums (t : List UInt8) : List Int := t.map fun b => (b.toNat : Int)
theorem nums_append (a b : List UInt8) : nums (a ++ b) = nums a ++ nums b := List.map_append
theorem nums_length (a : List UInt8) : (nums a).length = a.length := List.length_map ..
theorem bytesOf_nums (a : List UInt8) : bytesOf ⟨a.toArray⟩ = nums a := rfl
theorem strOf_nums (a : List UInt8) : strOfNums (nums a) = ⟨a.toArray⟩ := by
  unfold strOfNums nums
  rw [List.map_map]
  congr 2
  conv => rhs; rw [← List.map_id a]
  apply List.map_congr_left
  intro b _
  simp

theorem ref_l1 (L : List S33) (t : Nat) (ht : t < L.length) (r : Option (ByteArray × Int)) (K : Nat) (out0 : List Int) (hs : L[t].f1.all litOk = true) (hc : L[t].f1.length ≤ 1048576) (hroom : out0.length ≤ 60000000000000) (hr : ∀ k, K < k → depotref09_Write.l0 k L (out0 ++ nums (wordsT L[t].f1) ++ nums [48, 10]) (wrap64 ((t : Int) + 1)) = r) (d : Nat) :
    ∀ (k i : Nat), i ≤ L[t].f1.length → L[t].f1.length - i = d → d + K + 1 < k → depotref09_Write.l1 k L (out0 ++ nums (wordsT (L[t].f1.take i))) (t : Int) (i : Int) = r := by
  induction d with
  | zero =>
    intro k i h0 hd hk
    obtain ⟨k, rfl⟩ := succ_of hk
    have hlen := wordsT_length L[t].f1 hs
    rw [depotref09_Write.l1, if_pos (by omega), if_pos (by omega), rdT_nat ht, if_neg (by omega), List.take_of_length_le (by omega), if_pos (by rw [List.length_append, nums_length]; omega)]
    exact hr k (by omega)
  | succ d ih =>
    intro k i h0 hd hk
    obtain ⟨k, rfl⟩ := succ_of hk
    have hlen := wordsT_length (L[t].f1.take i) (List.all_eq_true.2 fun x hx => List.all_eq_true.1 hs x (List.mem_of_mem_take hx))
    rw [List.length_take] at hlen
    have hxr := litOk_range (List.all_eq_true.1 hs L[t].f1[i] (List.getElem_mem (by omega)))
    have hxl := Lib.itoa_length_le L[t].f1[i] (by omega) (by omega)
    have e : out0 ++ nums (wordsT (L[t].f1.take i)) ++ nums (Lib.itoa L[t].f1[i]) ++ [32] = out0 ++ nums (wordsT (L[t].f1.take (i + 1))) := by
      rw [take_succ' (by omega), wordsT_snoc, nums_append, nums_append, List.append_assoc, List.append_assoc]
      rfl
    rw [depotref09_Write.l1, if_pos (by omega), if_pos (by omega), rdT_nat ht, if_pos (by omega), if_pos (by omega), rd_nat (by omega), strconv_Itoa_18.f, if_pos (by omega)]
    simp only [Option.bind_some]
    rw [bytesOf_nums]
    have hsz : (⟨(Lib.itoa L[t].f1[i]).toArray⟩ : ByteArray).size = (Lib.itoa L[t].f1[i]).length := rfl
    rw [hsz, if_pos (by rw [List.length_append, nums_length]; omega), if_pos (by rw [List.length_append, List.length_append, nums_length, nums_length]; omega), e, w64 (by omega) (by omega)]
    exact ih k (i + 1) (by omega) (by omega) (by omega)

theorem ref_l0 (l : List S33) (hm : ∀ s ∈ l, s.f1.length ≤ 1048576) (hl : l.length ≤ 1048576) (d : Nat) : ∀ (i : Nat), i ≤ l.length → l.length - i = d → (∀ s ∈ l.take i, soundS s = true) →
    ∀ k, d * (1048576 + 20) + 2 < k → depotref09_Write.l0 k l (nums (stepsT (l.take i))) (i : Int) = some (dratR l) := by
  induction d with
  | zero =>
    intro i h0 hd hs k hk
    rw [List.take_of_length_le (by omega)] at hs ⊢
    have e : dratR l = (⟨(stepsT l).toArray⟩, 0) := by
      unfold dratR
      rw [if_pos (List.all_eq_true.2 hs)]
    obtain ⟨k, rfl⟩ := succ_of hk
    rw [depotref09_Write.l0, if_neg (by omega), e, strOf_nums]
  | succ d ih =>
    intro i h0 hd hs k hk
    have hlt : i < l.length := by omega
    have hsm := hm l[i] (List.getElem_mem hlt)
    have hlen := stepsT_length (l.take i) 1048576 (fun s h => hm s (List.mem_of_mem_take h)) hs
    have hlen2 : (stepsT (l.take i)).length ≤ 1048576 * (22 * 1048576 + 4) := Nat.le_trans hlen (Nat.mul_le_mul_right _ (by rw [List.length_take]; omega))
    clear hlen
    have hsucc : (d + 1) * (1048576 + 20) = d * (1048576 + 20) + (1048576 + 20) := by rw [Nat.add_mul, Nat.one_mul]
    obtain ⟨k, rfl⟩ := succ_of hk
    rw [depotref09_Write.l0, if_pos (by omega), if_pos (by omega), rdT_nat hlt, refSound_is _ (by omega) _ (by omega)]
    simp only [Option.bind_some]
    cases hb : soundS l[i] with
    | false =>
      have e : dratR l = (⟨#[]⟩, 1) := by
        unfold dratR
        rw [if_neg]
        intro h
        have := List.all_eq_true.1 h l[i] (List.getElem_mem hlt)
        rw [hb] at this
        cases this
      have hb' : l[i].f1.all litOk = false := hb
      rw [hb', if_neg (by decide), e]
    | true =>
      have hb' : l[i].f1.all litOk = true := hb
      have hs' : ∀ s ∈ l.take (i + 1), soundS s = true := by
        intro s h
        rw [take_succ' hlt, List.mem_append, List.mem_singleton] at h
        rcases h with h | rfl
        · exact hs s h
        · exact hb
      have h1 := ih (i + 1) (by omega) (by omega) hs'
      have hhl : (headT l[i].f0).length ≤ 2 := by unfold headT; split <;> simp
      have main : ∀ k, d * (1048576 + 20) + 1048576 + 6 < k → depotref09_Write.j1 k l (nums (stepsT (l.take i)) ++ nums (headT l[i].f0)) (i : Int) = some (dratR l) := by
        intro k hk
        obtain ⟨k, rfl⟩ := succ_of hk
        rw [depotref09_Write.j1]
        have := ref_l1 l i hlt (some (dratR l)) (d * (1048576 + 20) + 2) (nums (stepsT (l.take i)) ++ nums (headT l[i].f0)) hb' (by omega) (by rw [List.length_append, nums_length, nums_length]; omega) (fun k hk => by
          have e : nums (stepsT (l.take i)) ++ nums (headT l[i].f0) ++ nums (wordsT l[i].f1) ++ nums [48, 10] = nums (stepsT (l.take (i + 1))) := by
            rw [take_succ' hlt, stepsT_snoc, stepT]; simp only [nums_append, List.append_assoc]
          rw [e, w64 (by omega) (by omega)]; exact h1 k hk) l[i].f1.length k 0 (by omega) (by omega) (by omega)
        simpa [wordsT, nums] using this
      rw [hb', if_pos rfl]
      cases hf : l[i].f0 with
      | true =>
        rw [if_pos rfl, if_pos (by rw [nums_length]; omega)]
        have := main k (by omega)
        rw [hf] at this
        exact this
      | false =>
        rw [if_neg (by decide)]
        have := main k (by omega)
        rw [hf] at this
        simpa [headT, nums] using this

/-- The statement DratWrites, over lists. -/
theorem dratWrites_pure (l : List S33) (hm : ∀ s ∈ l, s.f1.length ≤ 1048576) (hl : l.length ≤ 1048576) : ∃ k, depotlaw09_DratWrites.f k l = some true := by
  obtain ⟨M, hM⟩ : ∃ M : Nat, l.length * (1048576 + 20) + 2 = M := ⟨_, rfl⟩
  obtain ⟨K, hK, hK2⟩ : ∃ K : Nat, M < K ∧ 20000003000000 < K := ⟨M + 20000003000001, by omega, by omega⟩
  refine ⟨K, ?_⟩
  have e2 : depotref09_Write.f K l = some (dratR l) := by
    have := ref_l0 l hm hl l.length 0 (by omega) (by omega) (by simp) K (by rw [hM]; exact hK)
    simpa [depotref09_Write.f, stepsT, nums] using this
  rw [depotlaw09_DratWrites.f, copySteps_is l 1048576 hm (by omega) (by omega) _ (by omega)]
  simp only [Option.bind_some]
  rw [drat_Write.f, if_pos ⟨hl, hm⟩]
  simp only [Option.bind_some]
  rw [e2]
  simp only [Option.bind_some]
  rw [if_pos trivial, beq_self_eq_true]
end Go.Proofs.YtooojhlndlebdaaRRRDoorRRRR.P
