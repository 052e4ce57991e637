/- The reference's Name and Get tell what the program's tell. No conditions. The size of a list of stanzas. No conditions. The reference's Name, Get and Formed tell what the program's tell. No conditions. The pure law ControlShapes. No conditions. The reference's Write tells what the program's tells: begun (the loop over a value's pieces). No conditions. The pure law ControlWrites. No conditions. -/
import Derived.Test.YtbaiglikmneicaaDoorEWriteC
import Derived.Test.YtbaiglikmneicaaDoorPureGets
import Derived.Test.YtbaiglikmneicaaDoorPx3
import Derived.Test.YtbaiglikmneicaaDoorSameC
import Derived.Test.YtbaiglikmneicaaDoorArgs
import Derived.Test.YtbaiglikmneicaaDoorPx12
import Derived.Test.YtbaiglikmneicaaDoorPx0
import Derived.Test.YtbaiglikmneicaaDoorPx4
import Derived.Test.YtbaiglikmneicaaDoorPx6
import Derived.Test.YtbaiglikmneicaaDoorPx7
import Derived.Test.YtbaiglikmneicaaDoorPx13W
set_option linter.unusedVariables false
set_option linter.unusedSimpArgs false
namespace Go.Proofs.YtbaiglikmneicaaDoor.P
open Go.RowKit Go.Lib Go.Proofs.YtbaiglikmneicaaDoorW.PrintWords Go.Proofs.YtbaiglikmneicaaDoorW.PrintLast Go.Proofs.YtbaiglikmneicaaDoorW.PrintMore
open Go.Proofs.YtbaiglikmneicaaDoor.R (mkB mkB_size mkB_data pieces)
open Go.Proofs.YtbaiglikmneicaaDoor.C (fairL)

theorem refname_l0 (l : List UInt8) (hl : l.length ≤ 4398046511104) (d : Nat) : ∀ (i k : Nat), i ≤ l.length → l.length - i = d → d < k → depotref21_Name.l0 k (mkB l) (i : Int) = some ((l.drop i).all nameB && match l with | [] => false | b :: _ => b != 35 && b != 45) := by
  induction d with
  | zero =>
    intro i k h0 hd hk
    obtain ⟨k, rfl⟩ := succ_of hk
    rw [depotref21_Name.l0, if_neg (by rw [mkB_size]; omega), List.drop_of_length_le (by omega)]
    cases l with
    | nil => rfl
    | cons b l =>
      have n35 := eq_nat b 35
      have n45 := eq_nat b 45
      rw [show ((35 : UInt8).toNat : Int) = 35 from rfl] at n35
      rw [show ((45 : UInt8).toNat : Int) = 45 from rfl] at n45
      have hb : bt (mkB (b :: l)) 0 = (b.toNat : Int) := bt_mkB (b :: l) 0 (by simp)
      rw [if_pos (by rw [mkB_size]; simp), if_pos (by rw [mkB_size]; simp), hb]
      by_cases h1 : (b.toNat : Int) = 35
      · rw [if_pos h1, n35.1 h1]; rfl
      · rw [if_neg h1]
        have e1 : (b != 35) = true := bne_iff_ne.2 (fun e => h1 (n35.2 e))
        have e2 : ((b.toNat : Int) != 45) = (b != 45) := by
          by_cases h2 : b = 45
          · subst h2; rfl
          · rw [bne_iff_ne.2 h2, bne_iff_ne.2 (fun e => h2 (n45.1 e))]
        rw [e2]
        simp [e1]
  | succ d ih =>
    intro i k h0 hd hk
    obtain ⟨k, rfl⟩ := succ_of hk
    have hlt : i < l.length := by omega
    have n58 := eq_nat l[i] 58
    rw [show ((58 : UInt8).toNat : Int) = 58 from rfl] at n58
    rw [depotref21_Name.l0, if_pos (by rw [mkB_size]; omega), if_pos (by omega), bt_mkB l i hlt, List.drop_eq_getElem_cons hlt, List.all_cons]
    by_cases h1 : ((l[i]).toNat : Int) < 33
    · rw [if_pos h1]
      have : nameB l[i] = false := by unfold nameB; rw [decide_eq_false (by omega)]; rfl
      rw [this]; rfl
    · rw [if_neg h1]
      by_cases h2 : ((l[i]).toNat : Int) > 126
      · rw [if_pos h2]
        have : nameB l[i] = false := by unfold nameB; rw [decide_eq_false (p := (l[i]).toNat ≤ 126) (by omega)]; simp
        rw [this]; rfl
      · rw [if_neg h2]
        by_cases h3 : ((l[i]).toNat : Int) = 58
        · rw [if_pos h3]
          have : nameB l[i] = false := by unfold nameB; rw [n58.1 h3]; rfl
          rw [this]; rfl
        · rw [if_neg h3]
          have : nameB l[i] = true := by
            unfold nameB
            rw [decide_eq_true (by omega), decide_eq_true (by omega), bne_iff_ne.2 (fun e => h3 (n58.2 e))]
            rfl
          rw [this, Bool.true_and, w64 (by omega) (by omega)]
          exact ih (i + 1) k (by omega) (by omega) (by omega)
theorem refname_is (l : List UInt8) (hl : l.length ≤ 4398046511104) (k : Nat) (hk : l.length < k) : depotref21_Name.f k (mkB l) = some (nameL l) := by
  have h := refname_l0 l hl l.length 0 k (by omega) (by omega) hk
  rw [List.drop_zero] at h
  refine (show depotref21_Name.f k (mkB l) = _ from h).trans ?_
  cases l with
  | nil => rfl
  | cons b l => unfold nameL; rw [Bool.and_comm]
theorem refget_l0 (line : Int) (fs : List S50) (name : ByteArray) (M : Nat) (hM : M ≤ 4294967280) (hn : name.size ≤ M) (hf : ∀ f ∈ fs, f.f0.size ≤ M) (hl : fs.length ≤ M) (d : Nat) : ∀ (i k : Nat), i ≤ fs.length → fs.length - i = d → d + 4 * M < k → depotref21_Get.l0 k name (i : Int) line fs = some (getR (fs.drop i) name) := by
  induction d with
  | zero =>
    intro i k h0 hd hk
    obtain ⟨k, rfl⟩ := succ_of hk
    rw [depotref21_Get.l0, if_neg (by omega), List.drop_of_length_le (by omega)]
    rfl
  | succ d ih =>
    intro i k h0 hd hk
    obtain ⟨k, rfl⟩ := succ_of hk
    have hlt : i < fs.length := by omega
    have hfi := hf fs[i] (List.getElem_mem hlt)
    rw [depotref21_Get.l0, if_pos (by omega), if_pos (by omega), rdF_nat hlt, alike_is _ _ (by omega) k (by omega), List.drop_eq_getElem_cons hlt, getR]
    simp only [Option.bind_some]
    by_cases h : lowL fs[i].f0 = lowL name
    · rw [if_pos (by simpa using h), if_pos h]
    · rw [if_neg (by simpa using h), if_neg h, w64s hM (Nat.lt_of_lt_of_le hlt hl)]
      exact ih (i + 1) k (by omega) (by omega) (by omega)
end Go.Proofs.YtbaiglikmneicaaDoor.P

set_option linter.unusedVariables false
set_option linter.unusedSimpArgs false
namespace Go.Proofs.YtbaiglikmneicaaDoor.P
open Go.RowKit Go.Lib Go.Proofs.YtbaiglikmneicaaDoorW.PrintWords Go.Proofs.YtbaiglikmneicaaDoorW.PrintLast Go.Proofs.YtbaiglikmneicaaDoorW.PrintMore

def massF (fs : List S50) : Nat := Args.massL (fun f : S50 => f.f0.size + f.f1.size + 1) fs
def massS (l : List S41) : Nat := Args.massL (fun s : S41 => massF s.f1 + 1) l
theorem massL_app {α : Type} (m : α → Nat) : ∀ a b : List α, Args.massL m (a ++ b) = Args.massL m a + Args.massL m b
  | [], b => by simp [Args.massL]
  | x :: a, b => by simp only [List.cons_append, Args.massL, massL_app m a b]; omega
theorem massL_take {α : Type} (m : α → Nat) (xs : List α) (n : Nat) : Args.massL m (xs.take n) ≤ Args.massL m xs := by
  conv => rhs; rw [← List.take_append_drop n xs]
  rw [massL_app]
  omega
theorem few_mass : ∀ l : List S41, massS (fewL l) ≤ massS l
  | [] => Nat.le_refl _
  | s :: l => by
    have h1 := massL_take (fun f : S50 => f.f0.size + f.f1.size + 1) s.f1 2000
    have h2 := few_mass l
    have e1 : massS (s :: l) = (massF s.f1 + 1) + massS l := rfl
    have e2 : massS (fewL (s :: l)) = (massF (s.f1.take 2000) + 1) + massS (fewL l) := rfl
    have h3 : massF (s.f1.take 2000) ≤ massF s.f1 := h1
    omega
theorem mass_all {l : List S41} {B : Nat} (h : massS l ≤ B) : l.length ≤ B ∧ ∀ s ∈ l, s.f1.length ≤ B ∧ ∀ f ∈ s.f1, smallF B f := by
  have h1 := Args.massL_len (m := fun s : S41 => massF s.f1 + 1) (fun _ => Nat.le_add_left _ _) l
  refine ⟨Nat.le_trans h1 h, fun s hs => ?_⟩
  have h2 := Args.massL_mem (m := fun s : S41 => massF s.f1 + 1) hs
  have h3 := Args.massL_len (m := fun f : S50 => f.f0.size + f.f1.size + 1) (fun _ => Nat.le_add_left _ _) s.f1
  have h4 : massF s.f1 + 1 ≤ massS l := h2
  have h5 : s.f1.length ≤ massF s.f1 := h3
  refine ⟨by omega, fun f hf => ?_⟩
  have h6 : f.f0.size + f.f1.size + 1 ≤ massF s.f1 := Args.massL_mem (m := fun f : S50 => f.f0.size + f.f1.size + 1) hf
  exact ⟨by omega, by omega⟩
end Go.Proofs.YtbaiglikmneicaaDoor.P

section
set_option linter.unusedVariables false
set_option linter.unusedSimpArgs false
namespace Go.Proofs.YtbaiglikmneicaaDoor.P
open Go.RowKit Go.Lib Go.Proofs.YtbaiglikmneicaaDoorW.PrintWords Go.Proofs.YtbaiglikmneicaaDoorW.PrintLast Go.Proofs.YtbaiglikmneicaaDoorW.PrintMore
open Go.Proofs.YtbaiglikmneicaaDoor.R (mkB mkB_size mkB_data pieces)
open Go.Proofs.YtbaiglikmneicaaDoor.C (fairL)

theorem reffield_step (l : List S41) (M : Nat) (hM : M ≤ 4294967280) (i : Int) (fs : List S50) (hm : fs.length ≤ M) (hs : ∀ f ∈ fs, smallF M f) (k j : Nat) (hk : 5 * M + 2 < k) (hj : j < fs.length) :
    depotref21_Formed.l1 (k + 1) l i fs (j : Int) = if fieldOk (fs.take j) fs[j] = true then depotref21_Formed.l1 k l i fs ((j + 1 : Nat) : Int) else some false := by
  have hsf := hs fs[j] (List.getElem_mem hj)
  have e0 : mkB fs[j].f0.data.toList = fs[j].f0 := mkB_data _
  have hz : fs[j].f0.data.toList.length = fs[j].f0.size := (size_eq _).symm
  have hb0 := hsf.1
  have hb1 := hsf.2
  have hname := refname_is fs[j].f0.data.toList (by rw [hz]; exact le_mid hM hb0) k (by rw [hz]; omega)
  rw [e0] at hname
  have hval : depotref21_value.f fs[j].f1 = some (valueL fs[j].f1.data.toList) := by unfold depotref21_value.f; rw [if_pos (le_low hM hb1)]
  have htl : (fs.take j).length ≤ fs.length := by rw [List.length_take]; omega
  have hget : depotref21_Get.f k 0 (fs.take j) fs[j].f0 = some (getR (fs.take j) fs[j].f0) := by
    have := refget_l0 0 (fs.take j) fs[j].f0 M hM hb0 (fun f hf => (hs f (List.mem_of_mem_take hf)).1) (Nat.le_trans htl hm) (fs.take j).length 0 k (by omega) (by omega) (by omega)
    rw [List.drop_zero] at this
    exact this
  have c1 : (j : Int) < (fs.length : Int) := by omega
  have c2 : (0 : Int) ≤ (j : Int) := by omega
  have c3 : (j : Int) ≤ (fs.length : Int) := by omega
  rw [depotref21_Formed.l1, if_pos c1, if_pos c2, if_pos c3, rdF_nat hj, Int.toNat_natCast, hget]
  simp only [Option.bind_some]
  rw [hname, hval]
  simp only [Option.bind_some]
  unfold fieldOk hasF
  rw [w64s hM (Nat.lt_of_lt_of_le hj hm)]
  cases (getR (fs.take j) fs[j].f0).2 <;> cases nameL fs[j].f0.data.toList <;> cases valueL fs[j].f1.data.toList <;> simp
theorem refformed_l1 (l : List S41) (M : Nat) (hM : M ≤ 4294967280) (i : Int) (fs : List S50) (hm : fs.length ≤ M) (hs : ∀ f ∈ fs, smallF M f) (q d : Nat) (hq : 5 * M + 2 < q) : ∀ j : Nat, j ≤ fs.length → fs.length - j = d →
    depotref21_Formed.l1 (q + d + 1) l i fs (j : Int) = if fieldsOk (fs.take j) (fs.drop j) = true then depotref21_Formed.l0 q l (wrap64 (i + 1)) else some false := by
  induction d with
  | zero =>
    intro j h0 hd
    have c1 : ¬ ((j : Int) < (fs.length : Int)) := by omega
    rw [depotref21_Formed.l1, if_neg c1, List.drop_of_length_le (by omega), fieldsOk, if_pos rfl]
  | succ d ih =>
    intro j h0 hd
    have hlt : j < fs.length := by omega
    rw [show q + (d + 1) + 1 = (q + d + 1) + 1 by omega, reffield_step l M hM i fs hm hs (q + d + 1) j (by omega) hlt, List.drop_eq_getElem_cons hlt, fieldsOk, ih (j + 1) (by omega) (by omega), take_succ' hlt]
    cases fieldOk (fs.take j) fs[j] <;> simp
theorem refformed_l0 (l : List S41) (M : Nat) (hM : M ≤ 4294967280) (hl : l.length ≤ M) (hs : ∀ s ∈ l, s.f1.length ≤ M ∧ ∀ f ∈ s.f1, smallF M f) (d : Nat) : ∀ (k i : Nat), i ≤ l.length → l.length - i = d → d * (M + 3) + 5 * M + 4 < k →
    depotref21_Formed.l0 k l (i : Int) = some (formedC (l.drop i)) := by
  induction d with
  | zero =>
    intro k i h0 hd hk
    obtain ⟨k, rfl⟩ := succ_of hk
    have c1 : ¬ ((i : Int) < (l.length : Int)) := by omega
    rw [depotref21_Formed.l0, if_neg c1, List.drop_of_length_le (by omega)]
    rfl
  | succ d ih =>
    intro k i h0 hd hk
    have hlt : i < l.length := by omega
    have hsi := hs l[i] (List.getElem_mem hlt)
    have hb := hsi.1
    obtain ⟨k, rfl⟩ := succ_of hk
    have en : ∀ (x : S41), formedC (x :: l.drop (i + 1)) = (stanzaOk x && formedC (l.drop (i + 1))) := fun x => rfl
    have c1 : (i : Int) < (l.length : Int) := by omega
    have c2 : (0 : Int) ≤ (i : Int) := by omega
    rw [depotref21_Formed.l0, if_pos c1, if_pos c2, rdS_nat hlt, List.drop_eq_getElem_cons hlt, en]
    unfold stanzaOk
    by_cases he : l[i].f1 = []
    · rw [if_pos (by rw [he]; rfl), decide_eq_false (by simpa using he)]
      rfl
    · have hp := List.length_pos_iff.2 he
      have hkk : d * (M + 3) + 5 * M + 4 + (l[i].f1.length + 2) < k + 1 := by
        have : (d + 1) * (M + 3) = d * (M + 3) + (M + 3) := by rw [Nat.add_mul, Nat.one_mul]
        omega
      obtain ⟨q, rfl⟩ : ∃ q, k = q + l[i].f1.length + 1 := ⟨k - l[i].f1.length - 1, by omega⟩
      have c3 : ¬ ((l[i].f1.length : Int) = 0) := by omega
      rw [if_neg c3, decide_eq_true (by simpa using he), Bool.true_and]
      have h1 := refformed_l1 l M hM (i : Int) l[i].f1 hb hsi.2 q l[i].f1.length (by omega) 0 (by omega) (by omega)
      rw [List.take_zero, List.drop_zero] at h1
      have h1' : depotref21_Formed.l1 (q + l[i].f1.length + 1) l (i : Int) l[i].f1 0 = _ := h1
      rw [h1', w64s hM (Nat.lt_of_lt_of_le hlt hl)]
      cases hf : fieldsOk [] l[i].f1 with
      | false => rfl
      | true =>
        rw [if_pos rfl, Bool.true_and]
        exact ih q (i + 1) (by omega) (by omega) (by omega)
theorem refformed_is (l : List S41) (M : Nat) (hM : M ≤ 4294967280) (hl : l.length ≤ M) (hs : ∀ s ∈ l, s.f1.length ≤ M ∧ ∀ f ∈ s.f1, smallF M f) (k : Nat) (hk : l.length * (M + 3) + 5 * M + 4 < k) : depotref21_Formed.f k l = some (formedC l) := by
  unfold depotref21_Formed.f
  have := refformed_l0 l M hM hl hs l.length k 0 (by omega) (by omega) hk
  simpa using this
end Go.Proofs.YtbaiglikmneicaaDoor.P
end
section
set_option linter.unusedVariables false
set_option linter.unusedSimpArgs false
namespace Go.Proofs.YtbaiglikmneicaaDoor.P
open Go.RowKit Go.Lib Go.Proofs.YtbaiglikmneicaaDoorW.PrintWords Go.Proofs.YtbaiglikmneicaaDoorW.PrintLast Go.Proofs.YtbaiglikmneicaaDoorW.PrintMore
end Go.Proofs.YtbaiglikmneicaaDoor.P
end

set_option linter.unusedVariables false
set_option linter.unusedSimpArgs false
namespace Go.Proofs.YtbaiglikmneicaaDoor.P
open Go.RowKit Go.Lib Go.Proofs.YtbaiglikmneicaaDoorW.PrintWords Go.Proofs.YtbaiglikmneicaaDoorW.PrintLast Go.Proofs.YtbaiglikmneicaaDoorW.PrintMore
open Go.Proofs.YtbaiglikmneicaaDoor.R (mkB mkB_size mkB_data pieces)

def intsW (A : List UInt8) : List Int := A.map fun b => (b.toNat : Int)
theorem intsW_app (A B : List UInt8) : intsW (A ++ B) = intsW A ++ intsW B := by unfold intsW; rw [List.map_append]
theorem intsW_len (A : List UInt8) : (intsW A).length = A.length := by unfold intsW; rw [List.length_map]
theorem intsW_mk (A : List UInt8) : bytesOf (mkB A) = intsW A := rfl
theorem refw_l2 (x : List S41) (i j : Int) (P : List (List UInt8)) (q d : Nat) : ∀ (m : Nat) (A : List UInt8), P.length - m = d → 1 ≤ m → m ≤ P.length → P.length ≤ 4294967290 → (∀ p ∈ P.drop m, p ≠ []) → (A ++ piecesW m (P.drop m) ++ [10]).length < 140737488355328 →
    depotref21_Write.l2 (q + d + 1) x (intsW A) i j (P.map mkB) (m : Int) = depotref21_Write.l1 q x (intsW (A ++ piecesW m (P.drop m) ++ [10])) i (wrap64 (j + 1)) := by
  induction d with
  | zero =>
    intro m A hd h1 hm hP hne hlen
    have e : P.drop m = [] := List.drop_of_length_le (by omega)
    rw [e, piecesW, List.append_nil] at hlen ⊢
    rw [List.length_append] at hlen
    rw [depotref21_Write.l2, if_neg (by rw [List.length_map]; omega), if_pos (by rw [intsW_len]; omega), intsW_app]
    rfl
  | succ d ih =>
    intro m A hd h1 hm hP hne hlen
    have hlt : m < P.length := by omega
    have hp : P[m] ≠ [] := hne _ (by rw [List.drop_eq_getElem_cons hlt]; exact List.mem_cons_self)
    have ep : pieceW m P[m] = [10, 32] ++ P[m] := by
      unfold pieceW
      rw [if_pos (by omega), if_neg hp]
      rfl
    have e : A ++ piecesW m (P.drop m) = (A ++ [10, 32] ++ P[m]) ++ piecesW (m + 1) (P.drop (m + 1)) := by
      rw [List.drop_eq_getElem_cons hlt, piecesW, ep]
      simp
    rw [e] at hlen ⊢
    have hl2 : (A ++ [10, 32]).length + P[m].length < 140737488355328 := by
      have := hlen
      rw [List.length_append, List.length_append, List.length_append] at this
      omega
    have hl1 : A.length + 2 < 140737488355328 := by
      rw [List.length_append] at hl2
      simp at hl2
      omega
    have hb : bytesOf (⟨#[10, 32]⟩ : ByteArray) = intsW [10, 32] := rfl
    have hw := Aside0.mk (show wrap64 ((m : Int) + 1) = ((m + 1 : Nat) : Int) from by unfold wrap64; omega)
    rw [show q + (d + 1) + 1 = (q + d + 1) + 1 by omega, depotref21_Write.l2, if_pos (by rw [List.length_map]; omega), if_pos (by rw [intsW_len]; exact hl1)]
    simp only [Option.bind_some]
    rw [if_pos (by omega), rd_map P m hlt, hb, ← intsW_app, if_pos (by rw [intsW_len, mkB_size]; exact hl2), intsW_mk, ← intsW_app, hw.out]
    exact ih (m + 1) _ (by omega) (by omega) (by omega) hP (fun p hp' => hne p (by rw [List.drop_eq_getElem_cons hlt]; exact List.mem_cons_of_mem _ hp')) hlen
theorem strOf_ints (A : List UInt8) : strOfNums (intsW A) = mkB A := by
  apply ByteArray.ext
  rw [show (strOfNums (intsW A)).data = ((strOfNums (intsW A)).data.toList).toArray from by simp, strOfNums_data]
  unfold intsW mkB
  rw [List.map_map]
  congr 1
  refine (List.map_congr_left (g := id) (fun c _ => ?_)).trans (List.map_id _)
  show UInt8.ofNat ((c.toNat : Int).toNat) = c
  rw [Int.toNat_natCast]
  simp
theorem refw_field (x : List S41) (i : Nat) (hi : i < x.length) (f : S50) (j : Nat) (hj : j < x[i].f1.length) (hf : x[i].f1[j] = f) (hsz : f.f1.size ≤ 4294967280) (hn0 : f.f0.size ≤ 4294967280) (hok : piecesOk (pieces f.f1.data.toList) = true) (A : List UInt8) (hA : (A ++ fieldW f).length < 140737488355328) (k : Nat) (hk : f.f1.size + f.f1.size + 4 < k) :
    ∃ q, k ≤ q + f.f1.size + 4 ∧ depotref21_Write.l1 k x (intsW A) (i : Int) (j : Int) = depotref21_Write.l1 q x (intsW (A ++ fieldW f)) (i : Int) (wrap64 ((j : Int) + 1)) := by
  obtain ⟨V, hV⟩ : ∃ V, f.f1.data.toList = V := ⟨_, rfl⟩
  obtain ⟨N, hN⟩ : ∃ N, f.f0.data.toList = N := ⟨_, rfl⟩
  have hVl : V.length = f.f1.size := by rw [← hV]; exact (size_eq _).symm
  have hNl : N.length = f.f0.size := by rw [← hN]; exact (size_eq _).symm
  have e1 : f.f1 = mkB V := by rw [← hV]; exact (mkB_data _).symm
  have e0 : f.f0 = mkB N := by rw [← hN]; exact (mkB_data _).symm
  have hpl := pieces_len V
  obtain ⟨k, rfl⟩ : ∃ k', k = k' + 1 := ⟨k - 1, by omega⟩
  have hP := refpieces_is V (by omega) k (by omega)
  unfold fieldW at hA ⊢
  rw [hV] at hok
  rw [hV, hN] at hA ⊢
  have hpn := R.pieces_ne V
  obtain ⟨p, ps, hpp⟩ := List.exists_cons_of_ne_nil hpn
  rw [hpp] at hP hok hA hpl ⊢
  have hne : ∀ r ∈ ps, r ≠ [] := fun r hr => by
    have h := hok
    unfold piecesOk at h
    rw [Bool.and_eq_true] at h
    have := List.all_eq_true.1 h.2 r hr
    unfold innerP at this
    rw [Bool.and_eq_true] at this
    exact of_decide_eq_true this.2
  obtain ⟨q, hq⟩ : ∃ q, k = q + ps.length + 1 + 1 := ⟨k - ps.length - 2, by have := hpl.1; simp at this; omega⟩
  have hps : ps.length ≤ f.f1.size := by have := hpl.1; simp at this; omega
  refine ⟨q, by omega, ?_⟩
  have eW : piecesW 0 (p :: ps) = (if p = [] then [] else 32 :: p) ++ piecesW 1 ps := by
    rw [piecesW]; unfold pieceW; rw [if_neg (Nat.lt_irrefl 0)]; rfl
  rw [eW] at hA ⊢
  have hlen := hA
  rw [List.length_append, List.length_append, List.length_append, List.length_append, List.length_append] at hlen
  simp only [List.length_cons, List.length_nil] at hlen
  have hgo := refw_l2 x (i : Int) (j : Int) (p :: ps) q ps.length 1
  rw [depotref21_Write.l1, if_pos (by omega), if_pos (by omega), rdS_nat hi, if_pos (by omega), if_pos (by omega), rdF_nat hj, hf, e1, hP]
  simp only [Option.bind_some]
  rw [e0, if_pos (by rw [intsW_len, mkB_size]; omega), intsW_mk, ← intsW_app]
  try simp only [Option.bind_some]
  rw [if_pos (by rw [intsW_len, List.length_append]; omega), show ([58] : List Int) = intsW [58] from rfl, ← intsW_app]
  try simp only [Option.bind_some]
  have hr0 : rdOf ByteArray.empty (List.map mkB (p :: ps)) 0 = mkB p := rd_map (p :: ps) 0 (by simp)
  rw [if_pos (by simp), hr0]
  by_cases hp : p = []
  · subst hp
    rw [if_neg (by rw [mkB_size]; simp), hq, depotref21_Write.j3]
    have := hgo (A ++ N ++ [58]) (by simp) (Nat.le_refl _) (by simp) (by simp; omega) (by simpa using hne) (by simp at hlen ⊢; omega)
    refine (show depotref21_Write.l2 (q + ps.length + 1) x (intsW (A ++ N ++ [58])) (i : Int) (j : Int) (List.map mkB ([] :: ps)) 1 = _ from this).trans ?_
    simp
  · have hpos := List.length_pos_iff.2 hp
    rw [if_neg hp] at hlen ⊢
    rw [List.length_cons] at hlen
    rw [if_pos (show ((mkB p).size : Int) > 0 by rw [mkB_size]; omega)]
    rw [if_pos (by rw [intsW_len, List.length_append, List.length_append]; simp; omega)]
    try simp only [Option.bind_some]
    rw [show ([32] : List Int) = intsW [32] from rfl, ← intsW_app, if_pos (by rw [intsW_len, mkB_size, List.length_append, List.length_append, List.length_append]; simp at hlen ⊢; omega), intsW_mk, ← intsW_app, hq, depotref21_Write.j3]
    have := hgo (A ++ N ++ [58] ++ [32] ++ p) (by simp) (Nat.le_refl _) (by simp) (by simp; omega) (by simpa using hne) (by simp at hlen ⊢; omega)
    refine (show depotref21_Write.l2 (q + ps.length + 1) x (intsW (A ++ N ++ [58] ++ [32] ++ p)) (i : Int) (j : Int) (List.map mkB (p :: ps)) 1 = _ from this).trans ?_
    simp
theorem refw_l1 (x : List S41) (i : Nat) (hi : i < x.length) (hx : x.length ≤ 4294967280) (M : Nat) (hM : M ≤ 4294967280) (hl : x[i].f1.length ≤ M) (hs : ∀ f ∈ x[i].f1, smallF M f ∧ piecesOk (pieces f.f1.data.toList) = true) (F : List UInt8) (R : ByteArray × Int) (K0 : Nat) (hK : 2 * M + 4 ≤ K0) (H : ∀ k, K0 < k → depotref21_Write.l0 k x (intsW F) ((i + 1 : Nat) : Int) = some R) (hF : F.length < 140737488355328) (d : Nat) : ∀ (j : Nat) (A : List UInt8), j ≤ x[i].f1.length → x[i].f1.length - j = d → A ++ fieldsW (x[i].f1.drop j) = F → ∀ k, K0 + d * (M + 4) + 1 < k → depotref21_Write.l1 k x (intsW A) (i : Int) (j : Int) = some R := by
  induction d with
  | zero =>
    intro j A hj hd hA k hk
    obtain ⟨k, rfl⟩ : ∃ k', k = k' + 1 := ⟨k - 1, by omega⟩
    have hw := Aside0.mk (show wrap64 ((i : Int) + 1) = ((i + 1 : Nat) : Int) from by unfold wrap64; omega)
    have e : A = F := by
      rw [List.drop_of_length_le (by omega)] at hA
      simpa [fieldsW] using hA
    rw [depotref21_Write.l1, if_pos (by omega), if_pos (by omega), rdS_nat hi, if_neg (by omega), hw.out, e]
    exact H k (by omega)
  | succ d ih =>
    intro j A hj hd hA k hk
    have hlt : j < x[i].f1.length := by omega
    have hsf := hs _ (List.getElem_mem hlt)
    obtain ⟨f, hf⟩ : ∃ f, x[i].f1[j] = f := ⟨_, rfl⟩
    have e : (A ++ fieldW f) ++ fieldsW (x[i].f1.drop (j + 1)) = F := by
      rw [← hA, List.drop_eq_getElem_cons hlt, hf]
      unfold fieldsW
      simp
    rw [hf] at hsf
    have h0 := hsf.1.1
    have h1 := hsf.1.2
    have hd2 : (d + 1) * (M + 4) = d * (M + 4) + (M + 4) := by rw [Nat.add_mul, Nat.one_mul]
    obtain ⟨q, hq, he⟩ := refw_field x i hi f j hlt hf (by omega) (by omega) hsf.2 A (by have := congrArg List.length e; rw [List.length_append] at this; omega) k (by omega)
    have hw := Aside0.mk (show wrap64 ((j : Int) + 1) = ((j + 1 : Nat) : Int) from by unfold wrap64; omega)
    rw [he, hw.out]
    exact ih (j + 1) _ (by omega) (by omega) e q (by omega)
theorem refw_l0 (x : List S41) (hx : x.length ≤ 4294967280) (M : Nat) (hM : M ≤ 4294967280) (hl : ∀ s ∈ x, s.f1.length ≤ M) (hs : ∀ s ∈ x, ∀ f ∈ s.f1, smallF M f ∧ piecesOk (pieces f.f1.data.toList) = true) (F : List UInt8) (hF : F.length < 140737488355328) (d : Nat) : ∀ (i : Nat) (A : List UInt8), i ≤ x.length → x.length - i = d → A ++ stanzasW i (x.drop i) = F → ∀ k, d * (M * (M + 4) + 5) + 2 * M + 5 < k → depotref21_Write.l0 k x (intsW A) (i : Int) = some (mkB F, 0) := by
  induction d with
  | zero =>
    intro i A hi hd hA k hk
    obtain ⟨k, rfl⟩ : ∃ k', k = k' + 1 := ⟨k - 1, by omega⟩
    have e : A = F := by
      rw [List.drop_of_length_le (by omega), stanzasW, List.append_nil] at hA
      exact hA
    rw [depotref21_Write.l0, if_neg (by omega), strOf_ints, e]
  | succ d ih =>
    intro i A hi hd hA k hk
    have hlt : i < x.length := by omega
    have hd2 : (d + 1) * (M * (M + 4) + 5) = d * (M * (M + 4) + 5) + (M * (M + 4) + 5) := by rw [Nat.add_mul, Nat.one_mul]
    rw [hd2] at hk
    obtain ⟨k, rfl⟩ : ∃ k', k = k' + 2 := ⟨k - 2, by omega⟩
    have hli := hl _ (List.getElem_mem hlt)
    have hmul : x[i].f1.length * (M + 4) ≤ M * (M + 4) := Nat.mul_le_mul_right _ hli
    have hW : A ++ stanzasW i (x.drop i) = (A ++ (if 0 < i then [10] else []) ++ fieldsW x[i].f1) ++ stanzasW (i + 1) (x.drop (i + 1)) := by
      rw [List.drop_eq_getElem_cons hlt, stanzasW]
      unfold stanzaW
      simp
    rw [hW] at hA
    obtain ⟨G, hG⟩ : ∃ G, A ++ (if 0 < i then [10] else []) ++ fieldsW x[i].f1 = G := ⟨_, rfl⟩
    rw [hG] at hA
    have hGl : G.length < 140737488355328 := by
      have := congrArg List.length hA
      rw [List.length_append] at this
      omega
    have H : ∀ k, d * (M * (M + 4) + 5) + 2 * M + 5 < k → depotref21_Write.l0 k x (intsW G) ((i + 1 : Nat) : Int) = some (mkB F, 0) := fun k hk => ih (i + 1) G (by omega) (by omega) hA k hk
    have key := fun B (hB : B ++ fieldsW x[i].f1 = G) => refw_l1 x i hlt hx M hM hli (hs _ (List.getElem_mem hlt)) G (mkB F, 0) _ (by omega) H hGl x[i].f1.length 0 B (by omega) (by omega) (by rw [List.drop_zero]; exact hB) k (by omega)
    rw [depotref21_Write.l0, if_pos (by omega)]
    by_cases h0 : 0 < i
    · rw [if_pos h0] at hG
      have hAl : A.length < 140737488355328 := by
        have := congrArg List.length hG
        rw [List.length_append, List.length_append] at this
        omega
      rw [if_pos (by omega), if_pos (by rw [intsW_len]; exact hAl), depotref21_Write.j1, show ([10] : List Int) = intsW [10] from rfl, ← intsW_app]
      exact key _ hG
    · rw [if_neg h0, List.append_nil] at hG
      rw [if_neg (by omega), depotref21_Write.j1]
      exact key _ hG
end Go.Proofs.YtbaiglikmneicaaDoor.P

set_option linter.unusedVariables false
set_option linter.unusedSimpArgs false
namespace Go.Proofs.YtbaiglikmneicaaDoor.P
open Go.RowKit Go.Lib Go.Proofs.YtbaiglikmneicaaDoorW.PrintWords Go.Proofs.YtbaiglikmneicaaDoorW.PrintLast Go.Proofs.YtbaiglikmneicaaDoorW.PrintMore
open Go.Proofs.YtbaiglikmneicaaDoor.R (mkB mkB_size mkB_data pieces linesA)
open Go.Proofs.YtbaiglikmneicaaDoor.C (fairL okC)

theorem pieces_sum2 : ∀ v : List UInt8, ((pieces v).map (fun p => p.length + 2)).sum ≤ 2 * v.length + 2
  | [] => by simp [pieces]
  | b :: v => by
    have ih := pieces_sum2 v
    rw [pieces]
    by_cases hb : b = 10
    · rw [if_pos hb]
      simp only [List.map_cons, List.sum_cons, List.length_nil, List.length_cons]
      omega
    · rw [if_neg hb]
      cases h : pieces v with
      | nil => exact absurd h (R.pieces_ne v)
      | cons q qs =>
        rw [h] at ih
        simp only [List.map_cons, List.sum_cons, List.length_cons] at ih ⊢
        omega
theorem piecesW_sum2 : ∀ (P : List (List UInt8)) (i : Nat), (piecesW i P).length ≤ (P.map (fun p => p.length + 2)).sum
  | [], _ => Nat.le_refl _
  | p :: P, i => by
    have ih := piecesW_sum2 P (i + 1)
    have hp : (pieceW i p).length ≤ p.length + 2 := by
      unfold pieceW
      rw [List.length_append]
      split <;> split <;> simp <;> omega
    rw [piecesW, List.length_append, List.map_cons, List.sum_cons]
    omega
theorem fieldW_len2 (f : S50) : (fieldW f).length ≤ 4 * (f.f0.size + f.f1.size + 1) := by
  have h1 := piecesW_sum2 (pieces f.f1.data.toList) 0
  have h2 := pieces_sum2 f.f1.data.toList
  unfold fieldW
  simp only [List.length_append, List.length_cons, List.length_nil, ← size_eq] at h1 h2 ⊢
  omega
theorem fieldsW_len2 : ∀ fs : List S50, (fieldsW fs).length ≤ 4 * massF fs
  | [] => Nat.le_refl _
  | f :: fs => by
    have h1 := fieldW_len2 f
    have h2 := fieldsW_len2 fs
    have e : fieldsW (f :: fs) = fieldW f ++ fieldsW fs := rfl
    have e2 : massF (f :: fs) = (f.f0.size + f.f1.size + 1) + massF fs := rfl
    rw [e, e2, List.length_append]
    omega
theorem stanzasW_len2 : ∀ (l : List S41) (i : Nat), (stanzasW i l).length ≤ 4 * massS l
  | [], _ => Nat.le_refl _
  | s :: l, i => by
    have h1 := fieldsW_len2 s.f1
    have h2 := stanzasW_len2 l (i + 1)
    have e2 : massS (s :: l) = (massF s.f1 + 1) + massS l := rfl
    have h3 : (stanzaW i s).length ≤ 1 + (fieldsW s.f1).length := by
      unfold stanzaW
      rw [List.length_append]
      split <;> simp
    rw [stanzasW, e2, List.length_append]
    omega
theorem small_of2 {l : List S41} {B : Nat} (h : massS l ≤ B) (hB : B ≤ 4294967280) : SmallC l := by
  obtain ⟨h1, h2⟩ := mass_all h
  have h3 := stanzasW_len2 l 0
  exact ⟨Nat.le_trans h1 hB, fun s hs => ⟨Nat.le_trans (h2 s hs).1 hB, fun f hf => ⟨Nat.le_trans ((h2 s hs).2 f hf).1 hB, Nat.le_trans ((h2 s hs).2 f hf).2 hB⟩⟩, by omega⟩
theorem write_is2 {l : List S41} {B : Nat} (h : massS l ≤ B) (hB : B ≤ 4294967280) : control_Write.f l = some (writeC l) := by
  unfold control_Write.f
  rw [if_pos (small_of2 h hB)]
theorem fieldsOk_all : ∀ (fs pre : List S50), fieldsOk pre fs = true → ∀ f ∈ fs, valueL f.f1.data.toList = true
  | [], _, _, f, hf => by cases hf
  | g :: fs, pre, h, f, hf => by
    rw [fieldsOk, Bool.and_eq_true] at h
    rcases List.mem_cons.1 hf with rfl | hf
    · have := h.1
      unfold fieldOk at this
      rw [Bool.and_eq_true, Bool.and_eq_true] at this
      exact this.1.2
    · exact fieldsOk_all fs _ h.2 f hf
end Go.Proofs.YtbaiglikmneicaaDoor.P
