/- What the reference's Tens comes to: is the text a number written shortest? No conditions. -/
import Derived.Test.YtooojhlndlebdaaRRRDoorRRRRRx2
import Derived.Test.YtooojhlndlebdaaRRRDoorRRRRNum
import Derived.Test.YtooojhlndlebdaaRRRDoorRRRRLinesIs
set_option linter.unusedVariables false
set_option linter.unusedSimpArgs false
namespace Go.Proofs.YtooojhlndlebdaaRRRDoorRRRR.R
open Go.RowKit Go.Lib Go.Proofs.YtooojhlndlebdaaRRRDoorRRRRW.PrintWords Go.Proofs.YtooojhlndlebdaaRRRDoorRRRRW.PrintLast Go.Proofs.YtooojhlndlebdaaRRRDoorRRRRW.PrintMore

def tensB (l : List UInt8) : Bool :=
  match l with
  | [] => false
  | c :: r => if c = 45 then decide (r ≠ [48]) && canon r else canon l
theorem by_get (s : ByteArray) (i : Nat) (h : i < s.size) : s.data.toList[i]'(by simpa using h) = UInt8.ofNat (by_ s i) := by
  have := by_at s i h
  rw [List.getElem?_eq_getElem (by simpa using h)] at this
  exact Option.some.inj this
theorem by_lt (s : ByteArray) (i : Nat) : by_ s i < 256 := by unfold by_; exact UInt8.toNat_lt _
theorem digit_by (s : ByteArray) (i : Nat) : digit (UInt8.ofNat (by_ s i)) = decide (48 ≤ by_ s i ∧ by_ s i ≤ 57) := by
  unfold digit
  rw [UInt8.toNat_ofNat', Nat.mod_eq_of_lt (by_lt s i)]
theorem tens_l0 (s : ByteArray) (hs : s.size ≤ 4398046511104) (d : Nat) : ∀ (k i : Nat), i ≤ s.size → s.size - i = d → d < k → depotref03_Tens.l0 k s (i : Int) = some ((s.data.toList.drop i).all digit) := by
  have hsz : s.data.toList.length = s.size := by simp
  induction d with
  | zero =>
    intro k i h0 hd hk
    obtain ⟨k, rfl⟩ := succ_ofr hk
    rw [depotref03_Tens.l0, if_neg (by omega), List.drop_of_length_le (by omega)]
    rfl
  | succ d ih =>
    intro k i h0 hd hk
    obtain ⟨k, rfl⟩ := succ_ofr hk
    have hi : i < s.size := by omega
    rw [depotref03_Tens.l0, if_pos (by omega), if_pos (by omega), bt_nat s i hi, List.drop_eq_getElem_cons (by omega), List.all_cons, by_get s i hi, digit_by]
    by_cases h1 : (by_ s i : Int) < 48
    · rw [if_pos h1, decide_eq_false (by omega)]; rfl
    · rw [if_neg h1]
      by_cases h2 : (by_ s i : Int) > 57
      · rw [if_pos h2, decide_eq_false (by omega)]; rfl
      · rw [if_neg h2, decide_eq_true (by omega), w64r (by omega) (by omega)]
        have := ih k (i + 1) (by omega) (by omega) (by omega)
        simpa using this
theorem tens_j1 (s : ByteArray) (hs : s.size ≤ 4398046511104) (k : Nat) (hk : s.size + 2 < k) : depotref03_Tens.j1 k s = some (canon s.data.toList) := by
  have hsz : s.data.toList.length = s.size := by simp
  obtain ⟨k, rfl⟩ := succ_ofr hk
  obtain ⟨k, rfl⟩ := succ_ofr (show s.size + 1 < k by omega)
  have l0 : depotref03_Tens.l0 k s 0 = some (s.data.toList.all digit) := by
    have := tens_l0 s hs s.size k 0 (by omega) (by omega) (by omega)
    simpa using this
  rw [depotref03_Tens.j1]
  by_cases h0 : (s.size : Int) = 0
  · rw [if_pos h0, depotref03_Tens.j2, if_pos rfl]
    have : s.data.toList = [] := List.eq_nil_of_length_eq_zero (by omega)
    rw [this]
    rfl
  · rw [if_neg h0]
    have hg : s.data.toList[0]? = some (UInt8.ofNat (by_ s 0)) := by_at s 0 (by omega)
    by_cases h1 : (s.size : Int) > 1
    · rw [if_pos h1, if_pos (by omega), depotref03_Tens.j2]
      have hb : bt s 0 = (by_ s 0 : Int) := bt_nat s 0 (by omega)
      rw [hb]
      generalize hl : s.data.toList = l at *
      match l, hsz, hg with
      | [], hsz, _ => simp at hsz; omega
      | [a], hsz, _ => simp at hsz; omega
      | a :: b :: r, hsz, hg =>
        have ha : a = UInt8.ofNat (by_ s 0) := Option.some.inj hg
        have hlt := by_lt s 0
        by_cases h48 : (by_ s 0 : Int) = 48
        · rw [h48, beq_self_eq_true, if_pos rfl]
          have : a = 48 := by rw [ha, show by_ s 0 = 48 by omega]; rfl
          rw [this]
          simp [canon]
        · rw [if_neg (by rw [beq_iff_eq]; exact h48), l0]
          have : a ≠ 48 := by
            intro e
            rw [ha] at e
            have := congrArg UInt8.toNat e
            rw [UInt8.toNat_ofNat', Nat.mod_eq_of_lt hlt] at this
            have e48 : (48 : UInt8).toNat = 48 := rfl
            omega
          show some ((a :: b :: r).all digit) = some ((a :: b :: r).all digit && (a != 48))
          rw [bne_iff_ne.2 this, Bool.and_true]
    · rw [if_neg h1, depotref03_Tens.j2, if_neg (by decide), l0]
      clear hg l0
      generalize hl : s.data.toList = l at *
      match l, hsz with
      | [], hsz => simp at hsz; omega
      | [a], hsz => simp [canon]
      | a :: b :: r, hsz => simp at hsz; omega
theorem tens_is (s : ByteArray) (hs : s.size ≤ 4398046511104) (k : Nat) (hk : s.size + 3 < k) : depotref03_Tens.f k s = some (tensB s.data.toList) := by
  have hsz : s.data.toList.length = s.size := by simp
  obtain ⟨k, rfl⟩ := succ_ofr hk
  unfold depotref03_Tens.f
  by_cases h0 : (s.size : Int) > 0
  · rw [if_pos h0, if_pos (by omega), depotref03_Tens.j0]
    have hb : bt s 0 = (by_ s 0 : Int) := bt_nat s 0 (by omega)
    have hg := by_get s 0 (by omega)
    have hlt := by_lt s 0
    rw [hb]
    have hne : s.data.toList ≠ [] := by intro h; rw [h] at hsz; simp at hsz; omega
    obtain ⟨a, r, har⟩ := List.exists_cons_of_ne_nil hne
    have ha : a = UInt8.ofNat (by_ s 0) := by
      have := hg
      simp only [har, List.getElem_cons_zero] at this
      exact this
    by_cases h45 : (by_ s 0 : Int) = 45
    · have ea : a = 45 := by rw [ha, show by_ s 0 = 45 by omega]; rfl
      rw [h45, beq_self_eq_true, if_pos rfl, if_pos (by omega)]
      have hx : (s.extract 1 s.size).data.toList = r := by
        rw [extract_data, har]
        simp only [List.drop_succ_cons, List.drop_zero]
        rw [List.take_of_length_le]
        rw [har] at hsz
        simp at hsz
        omega
      have hxs : (s.extract 1 s.size).size ≤ s.size := by simp
      rw [ByteArray.toList_eq, hx, har]
      simp only [tensB]
      rw [if_pos ea]
      by_cases hr : r = [48]
      · rw [if_pos hr, hr]; rfl
      · rw [if_neg hr, tens_j1 _ (by omega) k (by omega), hx, decide_eq_true hr, Bool.true_and]
    · rw [if_neg (by rw [beq_iff_eq]; exact h45), tens_j1 s hs k (by omega), har]
      have ea : a ≠ 45 := by
        intro e
        rw [ha] at e
        have := congrArg UInt8.toNat e
        rw [UInt8.toNat_ofNat', Nat.mod_eq_of_lt hlt] at this
        have e45 : (45 : UInt8).toNat = 45 := rfl
        omega
      simp only [tensB]
      rw [if_neg ea]
  · rw [if_neg h0, depotref03_Tens.j0, if_neg (by decide), tens_j1 s hs k (by omega)]
    have : s.data.toList = [] := List.eq_nil_of_length_eq_zero (by omega)
    rw [this]
    rfl
end Go.Proofs.YtooojhlndlebdaaRRRDoorRRRR.R
