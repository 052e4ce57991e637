/- control.name: what it comes to. No conditions. -/
import Derived.Test.YtbaiglikmneicaaDoorPureGets
import Derived.Test.YtbaiglikmneicaaDoorELibC
set_option linter.unusedVariables false
set_option linter.unusedSimpArgs false
namespace Go.Proofs.YtbaiglikmneicaaDoor.P
open Go.RowKit Go.Lib Go.Proofs.YtbaiglikmneicaaDoorW.PrintWords Go.Proofs.YtbaiglikmneicaaDoorW.PrintLast Go.Proofs.YtbaiglikmneicaaDoorW.PrintMore
open Go.Proofs.YtbaiglikmneicaaDoor.R (mkB mkB_size)

/-- A byte of a field's name. -/
def nameB (c : UInt8) : Bool := decide (33 ≤ c.toNat) && decide (c.toNat ≤ 126) && c != 58
/-- A field's name. -/
def nameL : List UInt8 → Bool
  | [] => false
  | b :: l => b != 35 && b != 45 && (b :: l).all nameB
theorem bt_mkB (l : List UInt8) (i : Nat) (h : i < l.length) : bt (mkB l) (i : Int) = ((l[i]).toNat : Int) := by
  have h1 := rd_bytesOf (mkB l) (i : Int)
  have hb : i < (bytesOf (mkB l)).length := by rw [bytesOf_length, mkB_size]; exact h
  rw [← h1, rd_nat hb]
  unfold bytesOf mkB
  exact List.getElem_map _
theorem eq_nat (c : UInt8) (n : UInt8) : (c.toNat : Int) = (n.toNat : Int) ↔ c = n := by
  constructor
  · intro h; exact UInt8.toNat_inj.1 (by omega)
  · intro h; rw [h]
theorem name_l0 (l : List UInt8) (hl : l.length ≤ 4398046511104) (d : Nat) : ∀ (i k : Nat), i ≤ l.length → l.length - i = d → d < k → control_name.l0 k (mkB l) (i : Int) = some ((l.drop i).all nameB) := by
  induction d with
  | zero =>
    intro i k h0 hd hk
    obtain ⟨k, rfl⟩ := succ_of hk
    rw [control_name.l0, if_neg (by rw [mkB_size]; omega), List.drop_of_length_le (by omega)]
    rfl
  | succ d ih =>
    intro i k h0 hd hk
    obtain ⟨k, rfl⟩ := succ_of hk
    have hlt : i < l.length := by omega
    have n58 := eq_nat l[i] 58
    rw [show ((58 : UInt8).toNat : Int) = 58 from rfl] at n58
    rw [control_name.l0, if_pos (by rw [mkB_size]; omega), if_pos (by omega), bt_mkB l i hlt, List.drop_eq_getElem_cons hlt, List.all_cons]
    by_cases h1 : ((l[i]).toNat : Int) < 33
    · rw [if_pos h1]
      have : nameB l[i] = false := by unfold nameB; rw [decide_eq_false (by omega)]; rfl
      rw [this]; rfl
    · rw [if_neg h1]
      by_cases h2 : ((l[i]).toNat : Int) > 126
      · rw [if_pos h2]
        have : nameB l[i] = false := by unfold nameB; rw [decide_eq_false (p := (l[i]).toNat ≤ 126) (by omega)]; simp
        rw [this]; rfl
      · rw [if_neg h2]
        by_cases h3 : ((l[i]).toNat : Int) = 58
        · rw [if_pos h3]
          have : nameB l[i] = false := by unfold nameB; rw [n58.1 h3]; rfl
          rw [this]; rfl
        · rw [if_neg h3]
          have : nameB l[i] = true := by
            unfold nameB
            rw [decide_eq_true (by omega), decide_eq_true (by omega), bne_iff_ne.2 (fun e => h3 (n58.2 e))]
            rfl
          rw [this, Bool.true_and, w64 (by omega) (by omega)]
          exact ih (i + 1) k (by omega) (by omega) (by omega)
theorem name_is (l : List UInt8) (hl : l.length ≤ 4398046511104) (k : Nat) (hk : l.length + 1 < k) : control_name.f k (mkB l) = some (nameL l) := by
  obtain ⟨k, rfl⟩ := succ_of hk
  unfold control_name.f
  cases l with
  | nil =>
    rw [if_pos (by rw [ByteArray.toList_eq]; unfold mkB; simp), control_name.j0, if_pos rfl]
    rfl
  | cons b l =>
    have n35 := eq_nat b 35
    have n45 := eq_nat b 45
    rw [show ((35 : UInt8).toNat : Int) = 35 from rfl] at n35
    rw [show ((45 : UInt8).toNat : Int) = 45 from rfl] at n45
    have hb : bt (mkB (b :: l)) 0 = (b.toNat : Int) := bt_mkB (b :: l) 0 (by simp)
    have hall := name_l0 (b :: l) hl (b :: l).length 0 k (by omega) (by omega) (by simpa using hk)
    simp only [Int.ofNat_zero, List.drop_zero] at hall
    rw [if_neg (by rw [ByteArray.toList_eq]; unfold mkB; simp), if_pos (by rw [mkB_size]; simp), hb]
    show _ = some (b != 35 && b != 45 && (b :: l).all nameB)
    by_cases h1 : (b.toNat : Int) = 35
    · rw [if_pos h1, control_name.j0, if_pos rfl, n35.1 h1]; rfl
    · rw [if_neg h1, control_name.j0]
      by_cases h2 : (b.toNat : Int) = 45
      · rw [if_pos (beq_iff_eq.2 h2), n45.1 h2]; rfl
      · rw [if_neg (fun e => h2 (beq_iff_eq.1 e)), bne_iff_ne.2 (fun e => h1 (n35.2 e)), bne_iff_ne.2 (fun e => h2 (n45.2 e)), Bool.true_and, Bool.true_and]
        exact hall
end Go.Proofs.YtbaiglikmneicaaDoor.P
