/- The reference's Name and Get tell what the program's tell. No conditions. -/
import Derived.Test.YtbaiglikmneicaaDoorEWriteC
import Derived.Test.YtbaiglikmneicaaDoorPureGets
import Derived.Test.YtbaiglikmneicaaDoorPx3
set_option linter.unusedVariables false
set_option linter.unusedSimpArgs false
namespace Go.Proofs.YtbaiglikmneicaaDoor.P
open Go.RowKit Go.Lib Go.Proofs.YtbaiglikmneicaaDoorW.PrintWords Go.Proofs.YtbaiglikmneicaaDoorW.PrintLast Go.Proofs.YtbaiglikmneicaaDoorW.PrintMore
open Go.Proofs.YtbaiglikmneicaaDoor.R (mkB mkB_size mkB_data pieces)
open Go.Proofs.YtbaiglikmneicaaDoor.C (fairL)

theorem refname_l0 (l : List UInt8) (hl : l.length ≤ 4398046511104) (d : Nat) : ∀ (i k : Nat), i ≤ l.length → l.length - i = d → d < k → depotref21_Name.l0 k (mkB l) (i : Int) = some ((l.drop i).all nameB && match l with | [] => false | b :: _ => b != 35 && b != 45) := by
  induction d with
  | zero =>
    intro i k h0 hd hk
    obtain ⟨k, rfl⟩ := succ_of hk
    rw [depotref21_Name.l0, if_neg (by rw [mkB_size]; omega), List.drop_of_length_le (by omega)]
    cases l with
    | nil => rfl
    | cons b l =>
      have n35 := eq_nat b 35
      have n45 := eq_nat b 45
      rw [show ((35 : UInt8).toNat : Int) = 35 from rfl] at n35
      rw [show ((45 : UInt8).toNat : Int) = 45 from rfl] at n45
      have hb : bt (mkB (b :: l)) 0 = (b.toNat : Int) := bt_mkB (b :: l) 0 (by simp)
      rw [if_pos (by rw [mkB_size]; simp), if_pos (by rw [mkB_size]; simp), hb]
      by_cases h1 : (b.toNat : Int) = 35
      · rw [if_pos h1, n35.1 h1]; rfl
      · rw [if_neg h1]
        have e1 : (b != 35) = true := bne_iff_ne.2 (fun e => h1 (n35.2 e))
        have e2 : ((b.toNat : Int) != 45) = (b != 45) := by
          by_cases h2 : b = 45
          · subst h2; rfl
          · rw [bne_iff_ne.2 h2, bne_iff_ne.2 (fun e => h2 (n45.1 e))]
        rw [e2]
        simp [e1]
  | succ d ih =>
    intro i k h0 hd hk
    obtain ⟨k, rfl⟩ := succ_of hk
    have hlt : i < l.length := by omega
    have n58 := eq_nat l[i] 58
    rw [show ((58 : UInt8).toNat : Int) = 58 from rfl] at n58
    rw [depotref21_Name.l0, if_pos (by rw [mkB_size]; omega), if_pos (by omega), bt_mkB l i hlt, List.drop_eq_getElem_cons hlt, List.all_cons]
    by_cases h1 : ((l[i]).toNat : Int) < 33
    · rw [if_pos h1]
      have : nameB l[i] = false := by unfold nameB; rw [decide_eq_false (by omega)]; rfl
      rw [this]; rfl
    · rw [if_neg h1]
      by_cases h2 : ((l[i]).toNat : Int) > 126
      · rw [if_pos h2]
        have : nameB l[i] = false := by unfold nameB; rw [decide_eq_false (p := (l[i]).toNat ≤ 126) (by omega)]; simp
        rw [this]; rfl
      · rw [if_neg h2]
        by_cases h3 : ((l[i]).toNat : Int) = 58
        · rw [if_pos h3]
          have : nameB l[i] = false := by unfold nameB; rw [n58.1 h3]; rfl
          rw [this]; rfl
        · rw [if_neg h3]
          have : nameB l[i] = true := by
            unfold nameB
            rw [decide_eq_true (by omega), decide_eq_true (by omega), bne_iff_ne.2 (fun e => h3 (n58.2 e))]
            rfl
          rw [this, Bool.true_and, w64 (by omega) (by omega)]
          exact ih (i + 1) k (by omega) (by omega) (by omega)
theorem refname_is (l : List UInt8) (hl : l.length ≤ 4398046511104) (k : Nat) (hk : l.length < k) : depotref21_Name.f k (mkB l) = some (nameL l) := by
  have h := refname_l0 l hl l.length 0 k (by omega) (by omega) hk
  rw [List.drop_zero] at h
  refine (show depotref21_Name.f k (mkB l) = _ from h).trans ?_
  cases l with
  | nil => rfl
  | cons b l => unfold nameL; rw [Bool.and_comm]
theorem refget_l0 (line : Int) (fs : List S50) (name : ByteArray) (M : Nat) (hM : M ≤ 4294967280) (hn : name.size ≤ M) (hf : ∀ f ∈ fs, f.f0.size ≤ M) (hl : fs.length ≤ M) (d : Nat) : ∀ (i k : Nat), i ≤ fs.length → fs.length - i = d → d + 4 * M < k → depotref21_Get.l0 k name (i : Int) line fs = some (getR (fs.drop i) name) := by
  induction d with
  | zero =>
    intro i k h0 hd hk
    obtain ⟨k, rfl⟩ := succ_of hk
    rw [depotref21_Get.l0, if_neg (by omega), List.drop_of_length_le (by omega)]
    rfl
  | succ d ih =>
    intro i k h0 hd hk
    obtain ⟨k, rfl⟩ := succ_of hk
    have hlt : i < fs.length := by omega
    have hfi := hf fs[i] (List.getElem_mem hlt)
    rw [depotref21_Get.l0, if_pos (by omega), if_pos (by omega), rdF_nat hlt, alike_is _ _ (by omega) k (by omega), List.drop_eq_getElem_cons hlt, getR]
    simp only [Option.bind_some]
    by_cases h : lowL fs[i].f0 = lowL name
    · rw [if_pos (by simpa using h), if_pos h]
    · rw [if_neg (by simpa using h), if_neg h, w64s hM (Nat.lt_of_lt_of_le hlt hl)]
      exact ih (i + 1) k (by omega) (by omega) (by omega)
end Go.Proofs.YtbaiglikmneicaaDoor.P
