/- The reference's Name, Get and Formed tell what the program's tell. No conditions. The pure law ControlShapes. No conditions. -/
import Derived.Test.YtbaiglikmneicaaDoorPx12
import Derived.Test.YtbaiglikmneicaaDoorMassC
import Derived.Test.YtbaiglikmneicaaDoorPx13S
section
set_option linter.unusedVariables false
set_option linter.unusedSimpArgs false
namespace Go.Proofs.YtbaiglikmneicaaDoor.P
open Go.RowKit Go.Lib Go.Proofs.YtbaiglikmneicaaDoorW.PrintWords Go.Proofs.YtbaiglikmneicaaDoorW.PrintLast Go.Proofs.YtbaiglikmneicaaDoorW.PrintMore
open Go.Proofs.YtbaiglikmneicaaDoor.R (mkB mkB_size mkB_data pieces)
open Go.Proofs.YtbaiglikmneicaaDoor.C (fairL)

theorem refname_l0 (l : List UInt8) (hl : l.length ≤ 4398046511104) (d : Nat) : ∀ (i k : Nat), i ≤ l.length → l.length - i = d → d < k → depotref21_Name.l0 k (mkB l) (i : Int) = some ((l.drop i).all nameB && match l with | [] => false | b :: _ => b != 35 && b != 45) := by
  induction d with
  | zero =>
    intro i k h0 hd hk
    obtain ⟨k, rfl⟩ := succ_of hk
    rw [depotref21_Name.l0, if_neg (by rw [mkB_size]; omega), List.drop_of_length_le (by omega)]
    cases l with
    | nil => rfl
    | cons b l =>
      have n35 := eq_nat b 35
      have n45 := eq_nat b 45
      rw [show ((35 : UInt8).toNat : Int) = 35 from rfl] at n35
      rw [show ((45 : UInt8).toNat : Int) = 45 from rfl] at n45
      have hb : bt (mkB (b :: l)) 0 = (b.toNat : Int) := bt_mkB (b :: l) 0 (by simp)
      rw [if_pos (by rw [mkB_size]; simp), if_pos (by rw [mkB_size]; simp), hb]
      by_cases h1 : (b.toNat : Int) = 35
      · rw [if_pos h1, n35.1 h1]; rfl
      · rw [if_neg h1]
        have e1 : (b != 35) = true := bne_iff_ne.2 (fun e => h1 (n35.2 e))
        have e2 : ((b.toNat : Int) != 45) = (b != 45) := by
          by_cases h2 : b = 45
          · subst h2; rfl
          · rw [bne_iff_ne.2 h2, bne_iff_ne.2 (fun e => h2 (n45.1 e))]
        rw [e2]
        simp [e1]
  | succ d ih =>
    intro i k h0 hd hk
    obtain ⟨k, rfl⟩ := succ_of hk
    have hlt : i < l.length := by omega
    have n58 := eq_nat l[i] 58
    rw [show ((58 : UInt8).toNat : Int) = 58 from rfl] at n58
    rw [depotref21_Name.l0, if_pos (by rw [mkB_size]; omega), if_pos (by omega), bt_mkB l i hlt, List.drop_eq_getElem_cons hlt, List.all_cons]
    by_cases h1 : ((l[i]).toNat : Int) < 33
    · rw [if_pos h1]
      have : nameB l[i] = false := by unfold nameB; rw [decide_eq_false (by omega)]; rfl
      rw [this]; rfl
    · rw [if_neg h1]
      by_cases h2 : ((l[i]).toNat : Int) > 126
      · rw [if_pos h2]
        have : nameB l[i] = false := by unfold nameB; rw [decide_eq_false (p := (l[i]).toNat ≤ 126) (by omega)]; simp
        rw [this]; rfl
      · rw [if_neg h2]
        by_cases h3 : ((l[i]).toNat : Int) = 58
        · rw [if_pos h3]
          have : nameB l[i] = false := by unfold nameB; rw [n58.1 h3]; rfl
          rw [this]; rfl
        · rw [if_neg h3]
          have : nameB l[i] = true := by
            unfold nameB
            rw [decide_eq_true (by omega), decide_eq_true (by omega), bne_iff_ne.2 (fun e => h3 (n58.2 e))]
            rfl
          rw [this, Bool.true_and, w64 (by omega) (by omega)]
          exact ih (i + 1) k (by omega) (by omega) (by omega)
theorem refname_is (l : List UInt8) (hl : l.length ≤ 4398046511104) (k : Nat) (hk : l.length < k) : depotref21_Name.f k (mkB l) = some (nameL l) := by
  have h := refname_l0 l hl l.length 0 k (by omega) (by omega) hk
  rw [List.drop_zero] at h
  refine (show depotref21_Name.f k (mkB l) = _ from h).trans ?_
  cases l with
  | nil => rfl
  | cons b l => unfold nameL; rw [Bool.and_comm]
theorem refget_l0 (line : Int) (fs : List S50) (name : ByteArray) (M : Nat) (hM : M ≤ 4294967280) (hn : name.size ≤ M) (hf : ∀ f ∈ fs, f.f0.size ≤ M) (hl : fs.length ≤ M) (d : Nat) : ∀ (i k : Nat), i ≤ fs.length → fs.length - i = d → d + 4 * M < k → depotref21_Get.l0 k name (i : Int) line fs = some (getR (fs.drop i) name) := by
  induction d with
  | zero =>
    intro i k h0 hd hk
    obtain ⟨k, rfl⟩ := succ_of hk
    rw [depotref21_Get.l0, if_neg (by omega), List.drop_of_length_le (by omega)]
    rfl
  | succ d ih =>
    intro i k h0 hd hk
    obtain ⟨k, rfl⟩ := succ_of hk
    have hlt : i < fs.length := by omega
    have hfi := hf fs[i] (List.getElem_mem hlt)
    rw [depotref21_Get.l0, if_pos (by omega), if_pos (by omega), rdF_nat hlt, alike_is _ _ (by omega) k (by omega), List.drop_eq_getElem_cons hlt, getR]
    simp only [Option.bind_some]
    by_cases h : lowL fs[i].f0 = lowL name
    · rw [if_pos (by simpa using h), if_pos h]
    · rw [if_neg (by simpa using h), if_neg h, w64s hM (Nat.lt_of_lt_of_le hlt hl)]
      exact ih (i + 1) k (by omega) (by omega) (by omega)
theorem reffield_step (l : List S41) (M : Nat) (hM : M ≤ 4294967280) (i : Int) (fs : List S50) (hm : fs.length ≤ M) (hs : ∀ f ∈ fs, smallF M f) (k j : Nat) (hk : 5 * M + 2 < k) (hj : j < fs.length) :
    depotref21_Formed.l1 (k + 1) l i fs (j : Int) = if fieldOk (fs.take j) fs[j] = true then depotref21_Formed.l1 k l i fs ((j + 1 : Nat) : Int) else some false := by
  have hsf := hs fs[j] (List.getElem_mem hj)
  have e0 : mkB fs[j].f0.data.toList = fs[j].f0 := mkB_data _
  have hz : fs[j].f0.data.toList.length = fs[j].f0.size := (size_eq _).symm
  have hb0 := hsf.1
  have hb1 := hsf.2
  have hname := refname_is fs[j].f0.data.toList (by rw [hz]; exact le_mid hM hb0) k (by rw [hz]; omega)
  rw [e0] at hname
  have hval : depotref21_value.f fs[j].f1 = some (valueL fs[j].f1.data.toList) := by unfold depotref21_value.f; rw [if_pos (le_low hM hb1)]
  have htl : (fs.take j).length ≤ fs.length := by rw [List.length_take]; omega
  have hget : depotref21_Get.f k 0 (fs.take j) fs[j].f0 = some (getR (fs.take j) fs[j].f0) := by
    have := refget_l0 0 (fs.take j) fs[j].f0 M hM hb0 (fun f hf => (hs f (List.mem_of_mem_take hf)).1) (Nat.le_trans htl hm) (fs.take j).length 0 k (by omega) (by omega) (by omega)
    rw [List.drop_zero] at this
    exact this
  have c1 : (j : Int) < (fs.length : Int) := by omega
  have c2 : (0 : Int) ≤ (j : Int) := by omega
  have c3 : (j : Int) ≤ (fs.length : Int) := by omega
  rw [depotref21_Formed.l1, if_pos c1, if_pos c2, if_pos c3, rdF_nat hj, Int.toNat_natCast, hget]
  simp only [Option.bind_some]
  rw [hname, hval]
  simp only [Option.bind_some]
  unfold fieldOk hasF
  rw [w64s hM (Nat.lt_of_lt_of_le hj hm)]
  cases (getR (fs.take j) fs[j].f0).2 <;> cases nameL fs[j].f0.data.toList <;> cases valueL fs[j].f1.data.toList <;> simp
theorem refformed_l1 (l : List S41) (M : Nat) (hM : M ≤ 4294967280) (i : Int) (fs : List S50) (hm : fs.length ≤ M) (hs : ∀ f ∈ fs, smallF M f) (q d : Nat) (hq : 5 * M + 2 < q) : ∀ j : Nat, j ≤ fs.length → fs.length - j = d →
    depotref21_Formed.l1 (q + d + 1) l i fs (j : Int) = if fieldsOk (fs.take j) (fs.drop j) = true then depotref21_Formed.l0 q l (wrap64 (i + 1)) else some false := by
  induction d with
  | zero =>
    intro j h0 hd
    have c1 : ¬ ((j : Int) < (fs.length : Int)) := by omega
    rw [depotref21_Formed.l1, if_neg c1, List.drop_of_length_le (by omega), fieldsOk, if_pos rfl]
  | succ d ih =>
    intro j h0 hd
    have hlt : j < fs.length := by omega
    rw [show q + (d + 1) + 1 = (q + d + 1) + 1 by omega, reffield_step l M hM i fs hm hs (q + d + 1) j (by omega) hlt, List.drop_eq_getElem_cons hlt, fieldsOk, ih (j + 1) (by omega) (by omega), take_succ' hlt]
    cases fieldOk (fs.take j) fs[j] <;> simp
theorem refformed_l0 (l : List S41) (M : Nat) (hM : M ≤ 4294967280) (hl : l.length ≤ M) (hs : ∀ s ∈ l, s.f1.length ≤ M ∧ ∀ f ∈ s.f1, smallF M f) (d : Nat) : ∀ (k i : Nat), i ≤ l.length → l.length - i = d → d * (M + 3) + 5 * M + 4 < k →
    depotref21_Formed.l0 k l (i : Int) = some (formedC (l.drop i)) := by
  induction d with
  | zero =>
    intro k i h0 hd hk
    obtain ⟨k, rfl⟩ := succ_of hk
    have c1 : ¬ ((i : Int) < (l.length : Int)) := by omega
    rw [depotref21_Formed.l0, if_neg c1, List.drop_of_length_le (by omega)]
    rfl
  | succ d ih =>
    intro k i h0 hd hk
    have hlt : i < l.length := by omega
    have hsi := hs l[i] (List.getElem_mem hlt)
    have hb := hsi.1
    obtain ⟨k, rfl⟩ := succ_of hk
    have en : ∀ (x : S41), formedC (x :: l.drop (i + 1)) = (stanzaOk x && formedC (l.drop (i + 1))) := fun x => rfl
    have c1 : (i : Int) < (l.length : Int) := by omega
    have c2 : (0 : Int) ≤ (i : Int) := by omega
    rw [depotref21_Formed.l0, if_pos c1, if_pos c2, rdS_nat hlt, List.drop_eq_getElem_cons hlt, en]
    unfold stanzaOk
    by_cases he : l[i].f1 = []
    · rw [if_pos (by rw [he]; rfl), decide_eq_false (by simpa using he)]
      rfl
    · have hp := List.length_pos_iff.2 he
      have hkk : d * (M + 3) + 5 * M + 4 + (l[i].f1.length + 2) < k + 1 := by
        have : (d + 1) * (M + 3) = d * (M + 3) + (M + 3) := by rw [Nat.add_mul, Nat.one_mul]
        omega
      obtain ⟨q, rfl⟩ : ∃ q, k = q + l[i].f1.length + 1 := ⟨k - l[i].f1.length - 1, by omega⟩
      have c3 : ¬ ((l[i].f1.length : Int) = 0) := by omega
      rw [if_neg c3, decide_eq_true (by simpa using he), Bool.true_and]
      have h1 := refformed_l1 l M hM (i : Int) l[i].f1 hb hsi.2 q l[i].f1.length (by omega) 0 (by omega) (by omega)
      rw [List.take_zero, List.drop_zero] at h1
      have h1' : depotref21_Formed.l1 (q + l[i].f1.length + 1) l (i : Int) l[i].f1 0 = _ := h1
      rw [h1', w64s hM (Nat.lt_of_lt_of_le hlt hl)]
      cases hf : fieldsOk [] l[i].f1 with
      | false => rfl
      | true =>
        rw [if_pos rfl, Bool.true_and]
        exact ih q (i + 1) (by omega) (by omega) (by omega)
theorem refformed_is (l : List S41) (M : Nat) (hM : M ≤ 4294967280) (hl : l.length ≤ M) (hs : ∀ s ∈ l, s.f1.length ≤ M ∧ ∀ f ∈ s.f1, smallF M f) (k : Nat) (hk : l.length * (M + 3) + 5 * M + 4 < k) : depotref21_Formed.f k l = some (formedC l) := by
  unfold depotref21_Formed.f
  have := refformed_l0 l M hM hl hs l.length k 0 (by omega) (by omega) hk
  simpa using this
end Go.Proofs.YtbaiglikmneicaaDoor.P
end
section
set_option linter.unusedVariables false
set_option linter.unusedSimpArgs false
namespace Go.Proofs.YtbaiglikmneicaaDoor.P
open Go.RowKit Go.Lib Go.Proofs.YtbaiglikmneicaaDoorW.PrintWords Go.Proofs.YtbaiglikmneicaaDoorW.PrintLast Go.Proofs.YtbaiglikmneicaaDoorW.PrintMore

theorem controlShapes_pure (l : List S41) (hb : massS l ≤ 1048576) : ∃ k, depotlaw21_ControlShapes.f k l = some true := by
  have hm : massS (fewL l) ≤ 1048576 := Nat.le_trans (few_mass l) hb
  have hl := mass_all hb
  obtain ⟨x, hx⟩ : ∃ x, fewL l = x := ⟨_, rfl⟩
  have hfew : ∀ k, l.length < k → depotlaw21_few.f k l = some x := fun k hk => by rw [← hx]; exact few_is l (by omega) k hk
  rw [hx] at hm
  have ha := mass_all hm
  obtain ⟨k, hk⟩ : ∃ k, l.length + x.length * (1048576 + 4) + 5 * 1048576 + 8 < k := ⟨_, Nat.lt_succ_self _⟩
  have hmul : x.length ≤ x.length * (1048576 + 4) := Nat.le_mul_of_pos_right _ (by decide)
  have hmul2 : x.length * (1048576 + 3) ≤ x.length * (1048576 + 4) := Nat.mul_le_mul_left _ (by decide)
  have h1 := hfew k (by omega)
  have h2 := copied_is x (by omega) (fun s hs => by have := (ha.2 s hs).1; omega) k (by omega)
  have h3 := formed_is x 1048576 (by decide) ha.1 ha.2 k (by omega)
  have h4 := refformed_is x 1048576 (by decide) ha.1 ha.2 k (by omega)
  have h5 := formed_is [] 0 (by decide) (Nat.le_refl _) (fun s hs => by cases hs) k (by simp; omega)
  refine ⟨k, ?_⟩
  unfold depotlaw21_ControlShapes.f
  rw [h1]
  simp only [Option.bind_some]
  rw [h2]
  simp only [Option.bind_some]
  rw [h3]
  simp only [Option.bind_some]
  rw [h4]
  simp only [Option.bind_some]
  rw [if_pos (by simp), h5]
  rfl
end Go.Proofs.YtbaiglikmneicaaDoor.P
end
