/- The pure laws DratBack and DratJoins: steps are read as they were written; two texts behind one another are that of both lists. No conditions. -/
import Derived.Test.YtooojhlndlebdaaRRRDoorRRRRRBx2
import Derived.Test.YtooojhlndlebdaaRRRDoorRRRRWriteR
set_option linter.unusedVariables false
set_option linter.unusedSimpArgs false
namespace Go.Proofs.YtooojhlndlebdaaRRRDoorRRRR.R
open Go.RowKit Go.Lib Go.Proofs.YtooojhlndlebdaaRRRDoorRRRRW.PrintWords Go.Proofs.YtooojhlndlebdaaRRRDoorRRRRW.PrintLast Go.Proofs.YtooojhlndlebdaaRRRDoorRRRRW.PrintMore

theorem soundL_l1 (L : List S33) (t : Nat) (ht : t < L.length) (hc : L[t].f1.length ≤ 1048576) (hL : L.length ≤ 1048576) (K : Nat) (r : Bool) (hr : ∀ k, K < k → depotlaw09_sound.l0 k L ((t + 1 : Nat) : Int) = some r) (d : Nat) :
    ∀ (k i : Nat), i ≤ L[t].f1.length → L[t].f1.length - i = d → d + K + 1 < k → depotlaw09_sound.l1 k L (t : Int) (i : Int) = some ((L[t].f1.drop i).all litOk && r) := by
  induction d with
  | zero =>
    intro k i h0 hd hk
    obtain ⟨k, rfl⟩ := succ_ofr hk
    rw [depotlaw09_sound.l1, if_pos (by omega), if_pos (by omega), rdT_natr ht, if_neg (by omega), List.drop_of_length_le (by omega), w64r (by omega) (by omega)]
    exact hr k (by omega)
  | succ d ih =>
    intro k i h0 hd hk
    obtain ⟨k, rfl⟩ := succ_ofr hk
    have hi : i < L[t].f1.length := by omega
    rw [depotlaw09_sound.l1, if_pos (by omega), if_pos (by omega), rdT_natr ht, if_pos (by omega), if_pos (by omega), rd_natr hi, List.drop_eq_getElem_cons hi, List.all_cons]
    have hn := ih k (i + 1) (by omega) (by omega) (by omega)
    have e1 : wrap64 ((i : Int) + 1) = ((i + 1 : Nat) : Int) := by rw [w64r (by omega) (by omega)]; omega
    by_cases h0 : L[t].f1[i] = 0
    · rw [if_pos h0]
      have : litOk L[t].f1[i] = false := by unfold litOk; exact decide_eq_false (by omega)
      rw [this]; rfl
    · rw [if_neg h0]
      by_cases h1 : L[t].f1[i] > 1048576
      · rw [if_pos h1]
        have : litOk L[t].f1[i] = false := by unfold litOk; exact decide_eq_false (by omega)
        rw [this]; rfl
      · rw [if_neg h1]
        by_cases h2 : L[t].f1[i] < -1048576
        · rw [if_pos h2]
          have : litOk L[t].f1[i] = false := by unfold litOk; exact decide_eq_false (by omega)
          rw [this]; rfl
        · rw [if_neg h2, e1, hn]
          have : litOk L[t].f1[i] = true := by unfold litOk; exact decide_eq_true ⟨h0, by omega, by omega⟩
          rw [this]; rfl
theorem soundL_l0 (L : List S33) (hm : ∀ s ∈ L, s.f1.length ≤ 1048576) (hL : L.length ≤ 1048576) (d : Nat) :
    ∀ (k t : Nat), t ≤ L.length → L.length - t = d → d * 1048579 + 1 < k → depotlaw09_sound.l0 k L (t : Int) = some ((L.drop t).all soundS) := by
  induction d with
  | zero =>
    intro k t h0 hd hk
    obtain ⟨k, rfl⟩ := succ_ofr hk
    rw [depotlaw09_sound.l0, if_neg (by omega), List.drop_of_length_le (by omega)]
    rfl
  | succ d ih =>
    intro k t h0 hd hk
    obtain ⟨k, rfl⟩ := succ_ofr hk
    have ht : t < L.length := by omega
    have hc := hm L[t] (List.getElem_mem ht)
    rw [depotlaw09_sound.l0, if_pos (by omega)]
    have := soundL_l1 L t ht hc hL (d * 1048579 + 1) _ (fun k hk => ih k (t + 1) (by omega) (by omega) hk) L[t].f1.length k 0 (by omega) (by omega) (by omega)
    rw [List.drop_zero] at this
    rw [List.drop_eq_getElem_cons ht, List.all_cons]
    exact this
theorem soundL_is (L : List S33) (hm : ∀ s ∈ L, s.f1.length ≤ 1048576) (hL : L.length ≤ 1048576) (k : Nat) (hk : 1099515822080 < k) : depotlaw09_sound.f k L = some (L.all soundS) := by
  unfold depotlaw09_sound.f
  have := soundL_l0 L hm hL L.length k 0 (by omega) (by omega) (by omega)
  simpa using this

theorem bulkS_len : ∀ l : List S33, l.length ≤ bulkS l
  | [] => by simp [bulkS]
  | s :: l => by
    have := bulkS_len l
    simp only [bulkS, List.length_cons]
    omega
theorem bulkS_mem {s : S33} : ∀ {l : List S33}, s ∈ l → s.f1.length ≤ bulkS l
  | x :: l, h => by
    simp only [bulkS]
    rcases List.mem_cons.1 h with rfl | h
    · omega
    · have := bulkS_mem h; omega
theorem bulkS_append (l m : List S33) : bulkS (l ++ m) = bulkS l + bulkS m := by
  induction l with
  | nil => simp [bulkS]
  | cons s l ih => simp only [List.cons_append, bulkS, ih]; omega
theorem dratR_yes {l : List S33} (h : l.all soundS = true) : dratR l = (mkB (stepsT l), 0) := by unfold dratR mkB; rw [if_pos h]
theorem dratR_no {l : List S33} (h : l.all soundS = false) : dratR l = (⟨#[]⟩, 1) := by unfold dratR; rw [if_neg (by rw [h]; decide)]
theorem write_is (l : List S33) (hb : bulkS l ≤ 1048576) : drat_Write.f l = some (dratR l) := by
  have hl := bulkS_len l
  unfold drat_Write.f
  rw [if_pos ⟨by omega, fun s hs => by have := bulkS_mem hs; omega⟩]
theorem read_steps (l : List S33) (hb : bulkS l ≤ 1048576) (h : l.all soundS = true) : drat_Read.f (mkB (stepsT l)) = some (l, 0, 0) := by
  have hs : ∀ s ∈ l, soundS s = true := fun s hs => List.all_eq_true.1 h s hs
  have hlen := stepsT_bulk l hs
  unfold drat_Read.f
  rw [if_pos (by rw [mkB_size]; omega), readF_steps l hs]
  rfl
theorem dratBack_pure (l : List S33) (hb : bulkS l ≤ 1048576) : ∃ k, depotlaw09_DratBack.f k l = some true := by
  obtain ⟨K, hK⟩ : ∃ K : Nat, 10000000000000 < K := ⟨10000000000001, by omega⟩
  refine ⟨K, ?_⟩
  have hl := bulkS_len l
  have hm : ∀ s ∈ l, s.f1.length ≤ 1048576 := fun s hs => by have := bulkS_mem hs; omega
  unfold depotlaw09_DratBack.f
  rw [copySteps_is l 1048576 hm (by omega) (by omega) K (by omega)]
  simp only [Option.bind_some]
  rw [write_is l hb]
  simp only [Option.bind_some]
  rw [soundL_is l hm (by omega) K (by omega)]
  simp only [Option.bind_some]
  cases h : l.all soundS with
  | true =>
    rw [if_pos rfl, dratR_yes h, read_steps l hb h]
    simp only [Option.bind_some]
    rw [if_pos trivial, if_pos trivial, if_pos trivial, sameSteps_self l 1048576 hm (by omega) (by omega) K (by omega)]
    rfl
  | false =>
    rw [if_neg (by decide), dratR_no h]
    simp only
    rw [if_pos trivial, show (⟨#[]⟩ : ByteArray).toList = [] by rw [ByteArray.toList_eq]]
    rfl
theorem mkB_append (a b : List UInt8) : mkB a ++ mkB b = mkB (a ++ b) := by
  unfold mkB
  apply ByteArray.ext
  rw [ByteArray.data_append]
  simp
theorem all_app {a b : List S33} : (a ++ b).all soundS = (a.all soundS && b.all soundS) := List.all_append
end Go.Proofs.YtooojhlndlebdaaRRRDoorRRRR.R
