/- The pure law DimacsForeign: a foreign word at the end of a clause's line is refused with that line. No conditions. -/
import Derived.Test.YtejdjmcdlbcmeaaDoorTx4
import Derived.Test.YtejdjmcdlbcmeaaDoorForeignT
set_option linter.unusedVariables false
set_option linter.unusedSimpArgs false
namespace Go.Proofs.YtejdjmcdlbcmeaaDoor.T
open Go.RowKit Go.Lib Go.Proofs.YtejdjmcdlbcmeaaDoorW.PrintWords Go.Proofs.YtejdjmcdlbcmeaaDoorW.PrintLast Go.Proofs.YtejdjmcdlbcmeaaDoorW.PrintMore
open Go.Proofs.YtejdjmcdlbcmeaaDoor.R (mkB mkB_size mkB_extract readD)
open Go.Proofs.YtejdjmcdlbcmeaaDoor.P (formT formOk dimR clausesT)

theorem bt_mkB (t : List UInt8) (i : Nat) (h : i < t.length) : (bt (mkB t) (i : Int) = 10) = (t[i] = 10) := by
  have e : bt (mkB t) (i : Int) = ((t[i]).toNat : Int) := by
    unfold bt
    rw [dif_pos (by rw [mkB_size, Int.toNat_natCast]; exact h)]
    rfl
  rw [e]
  apply propext
  constructor
  · intro h1
    apply UInt8.toNat_inj.1
    have e10 : (10 : UInt8).toNat = 10 := rfl
    omega
  · intro h1
    rw [h1]
    rfl
theorem mkB_app (a b : List UInt8) : mkB a ++ mkB b = mkB (a ++ b) := by
  apply ByteArray.ext
  simp [mkB]
/-- What the law does with the place it found. -/
def finF (x1 x2 : Int) (x7 : ByteArray) (x10 : Int) : Option Bool := if 0 ≤ x10 then (if x10 ≤ (x7.size : Int) then (if (x7.extract 0 (x10 : Int).toNat).size + 1 ≤ 9223372036854775807 then ((depotlaw03_foreign.f x2).bind fun t158 => (if ((x7.extract 0 (x10 : Int).toNat) ++ (⟨#[32]⟩ : ByteArray)).size + t158.size ≤ 9223372036854775807 then (if (((x7.extract 0 (x10 : Int).toNat) ++ (⟨#[32]⟩ : ByteArray)) ++ t158).size + (x7.extract (x10 : Int).toNat x7.size).size ≤ 9223372036854775807 then ((dimacs_Read.f ((((x7.extract 0 (x10 : Int).toNat) ++ (⟨#[32]⟩ : ByteArray)) ++ t158) ++ (x7.extract (x10 : Int).toNat x7.size))).bind fun bt159 => (if bt159.2.2.1 = 31 then (if bt159.2.2.2 = (wrap64 (x1 + 2)) then (if bt159.1 = 0 then (some ((bt159.2.1.length : Int) == 0)) else (some false)) else (some false)) else (some false))) else (none)) else (none))) else (none)) else (none)) else (none)
theorem loop_is (x1 x2 : Int) (t : List UInt8) (ht : t.length ≤ 30000000) (d : Nat) : ∀ (k i : Nat) (x9 x10 : Int), i ≤ t.length → t.length - i = d → d < k → 0 ≤ x9 → x9 ≤ i →
    depotlaw03_DimacsForeign.l0 k x1 x2 (mkB t) x9 x10 (i : Int) = finF x1 x2 (mkB t) (scanP (wrap64 (x1 + 2)) (t.drop i) x9 x10 (i : Int)) := by
  induction d with
  | zero =>
    intro k i x9 x10 hi hd hk h0 h9
    obtain ⟨k, rfl⟩ := succ_ofd hk
    rw [depotlaw03_DimacsForeign.l0, if_neg (by rw [mkB_size]; omega), List.drop_of_length_le (by omega)]
    rfl
  | succ d ih =>
    intro k i x9 x10 hi hd hk h0 h9
    obtain ⟨k, rfl⟩ := succ_ofd hk
    have hi' : i < t.length := by omega
    rw [depotlaw03_DimacsForeign.l0, if_pos (by rw [mkB_size]; omega), if_pos (by omega), List.drop_eq_getElem_cons hi', w64d (x := x9 + 1) (by omega) (by omega), w64d (x := (i : Int) + 1) (by omega) (by omega)]
    unfold scanP
    simp only [bt_mkB t i hi']
    by_cases hb : t[i] = 10
    · rw [if_pos hb, if_pos hb]
      by_cases he : x9 + 1 = wrap64 (x1 + 2)
      · rw [if_pos he, if_pos he]
        exact ih k (i + 1) _ _ (by omega) (by omega) (by omega) (by omega) (by omega)
      · rw [if_neg he, if_neg he]
        exact ih k (i + 1) _ _ (by omega) (by omega) (by omega) (by omega) (by omega)
    · rw [if_neg hb, if_neg hb]
      exact ih k (i + 1) _ _ (by omega) (by omega) (by omega) (by omega) (by omega)
theorem read_foreign (A w B : List UInt8) (st' : R.FSt) (n : Nat) (hb : A.length + w.length + B.length ≤ 40000000) (hr : readD (mkB (A ++ 32 :: (w ++ 10 :: B))) = (st', 31, n)) : dimacs_Read.f (mkB (A ++ 32 :: (w ++ 10 :: B))) = some (0, [], 31, (n : Int)) := by
  unfold dimacs_Read.f R.dimacs_Read.f
  have hs : (mkB (A ++ 32 :: (w ++ 10 :: B))).size ≤ 4294967280 := by
    rw [mkB_size]
    simp only [List.length_append, List.length_cons]
    omega
  rw [if_pos hs, hr]
  rfl
theorem ext_a (A B : List UInt8) : (mkB (A ++ 10 :: B)).extract 0 A.length = mkB A := by rw [mkB_extract]; simp
theorem ext_b (A B : List UInt8) : (mkB (A ++ 10 :: B)).extract A.length (mkB (A ++ 10 :: B)).size = mkB (10 :: B) := by rw [mkB_extract, mkB_size]; simp
theorem sz_le {n m : Nat} (h : n ≤ 100000000) (hm : m ≤ 100000000) : n + m ≤ 9223372036854775807 := by omega
theorem fin_at (A w B : List UInt8) (i : Nat) (hi : i < 1048576) (a2 : Int) (hb : A.length + B.length ≤ 30000000) (hw3 : w.length ≤ 3) (ew : depotlaw03_foreign.f a2 = some (mkB w)) (hR : dimacs_Read.f (mkB (A ++ 32 :: (w ++ 10 :: B))) = some (0, [], 31, ((i + 2 : Nat) : Int))) :
    finF (i : Int) a2 (mkB (A ++ 10 :: B)) (A.length : Int) = some true := by
  have e4 : mkB A ++ (⟨#[32]⟩ : ByteArray) ++ mkB w ++ mkB (10 :: B) = mkB (A ++ 32 :: (w ++ 10 :: B)) := by
    rw [show (⟨#[32]⟩ : ByteArray) = mkB [32] from rfl, mkB_app, mkB_app, mkB_app]
    simp
  have s1 : (mkB A ++ (⟨#[32]⟩ : ByteArray)).size ≤ 100000000 := by
    rw [show (⟨#[32]⟩ : ByteArray) = mkB [32] from rfl, mkB_app, mkB_size, List.length_append, List.length_singleton]
    omega
  have s2 : (mkB A ++ (⟨#[32]⟩ : ByteArray) ++ mkB w).size ≤ 100000000 := by
    rw [show (⟨#[32]⟩ : ByteArray) = mkB [32] from rfl, mkB_app, mkB_app, mkB_size, List.length_append, List.length_append, List.length_singleton]
    omega
  have s0 : (mkB A).size ≤ 100000000 := by rw [mkB_size]; omega
  have s3 : (mkB w).size ≤ 100000000 := by rw [mkB_size]; omega
  have s4 : (mkB (10 :: B)).size ≤ 100000000 := by rw [mkB_size, List.length_cons]; omega
  have s5 : ((A.length : Nat) : Int) ≤ ((mkB (A ++ 10 :: B)).size : Int) := by rw [mkB_size, List.length_append]; omega
  unfold finF
  rw [if_pos (Int.natCast_nonneg _), if_pos s5, Int.toNat_natCast, ext_a, ext_b, if_pos (sz_le s0 (by decide)), ew, Option.bind_some, if_pos (sz_le s1 s3), if_pos (sz_le s2 s4), e4, hR, Option.bind_some]
  have h31 : wrap64 ((i : Int) + 2) = ((i + 2 : Nat) : Int) := by rw [w64d (by omega) (by omega)]; omega
  rw [h31, if_pos rfl, if_pos rfl, if_pos rfl]
  rfl
theorem fin_is (v : Int) (l : List (List Int)) (h : formOk v l = true) (hl : l.length ≤ 1048576) (hb : (formT v l).length ≤ 30000000) (i : Nat) (hi : i < l.length) (a2 : Int) :
    finF (i : Int) a2 (mkB (formT v l)) ((beforeT v l i (l[i]'hi)).length : Int) = some true := by
  obtain ⟨w, hw, ew⟩ := foreign_is a2
  obtain ⟨st', hr⟩ := readD_foreign v l h hl i hi w (clausesT (l.drop (i + 1))) hw
  rw [formT_cut v l i hi] at hb ⊢
  generalize beforeT v l i (l[i]'hi) = A at hb hr ⊢
  generalize clausesT (l.drop (i + 1)) = B at hb hr ⊢
  have hw3 := (foreign_ok hw).2.2
  rw [List.length_append, List.length_cons] at hb
  exact fin_at A w B i (by omega) a2 (by omega) hw3 ew (read_foreign A w B st' (i + 2) (by omega) hr)
theorem dimacsForeign_pure (v : Int) (l : List (List Int)) (a1 a2 : Int) (hb : Args.massL (fun c : List Int => c.length + 1) l ≤ 1048576) (hl : l.length ≤ 1048576) (hs : ∀ s ∈ l, s.length ≤ 1048576) : ∃ k, depotlaw03_DimacsForeign.f k v l a1 a2 = some true := by
  obtain ⟨k, hk⟩ : ∃ k : Nat, l.length * (1048576 + 2) + l.length + 1048576 + 3 + 30000000 + 1 = k := ⟨_, rfl⟩
  refine ⟨k + 1, ?_⟩
  unfold depotlaw03_DimacsForeign.f
  rw [shaped_is v l 1048576 hs (by decide) (by omega) _ (by omega)]
  simp only [Option.bind_some]
  cases h : formOk v l with
  | false => rw [if_neg (by decide), depotlaw03_DimacsForeign.j0, if_pos rfl]
  | true =>
    rw [if_pos rfl]
    by_cases h0 : a1 < 0
    · rw [if_pos h0, depotlaw03_DimacsForeign.j0, if_pos rfl]
    · rw [if_neg h0, depotlaw03_DimacsForeign.j0]
      by_cases h1 : a1 ≥ (l.length : Int)
      · rw [if_pos (decide_eq_true h1)]
      · rw [if_neg (by rw [decide_eq_false h1]; decide), copyFormula_is v l 1048576 hs (by decide) (by omega) _ (by omega)]
        simp only [Option.bind_some]
        have e : dimR v l = (mkB (formT v l), 0) := by unfold dimR; rw [if_pos h]; rfl
        have hwr : dimacs_Write.f v l = some (dimR v l) := by
          unfold dimacs_Write.f P.dimacs_Write.f
          rw [if_pos ⟨hl, hs⟩]
        rw [hwr, e]
        simp only [Option.bind_some]
        rw [if_pos trivial]
        obtain ⟨i, rfl⟩ : ∃ i : Nat, a1 = i := ⟨a1.toNat, by omega⟩
        have hi : i < l.length := by omega
        have hm := formT_mass v l h hb
        have hlp := loop_is (i : Int) a2 (formT v l) hm (formT v l).length k 0 0 0 (by omega) (by omega) (by omega) (by omega) (by omega)
        rw [List.drop_zero, w64d (by omega) (by omega)] at hlp
        have hsc := scan_at ((i : Int) + 2) (clausesT (l.drop (i + 1))) (beforeT v l i (l[i]'hi)) 0 0 0 (by rw [before_count v l i hi]; omega)
        rw [← formT_cut v l i hi] at hsc
        have hz : ((0 : Nat) : Int) = 0 := rfl
        rw [hz, hsc, Int.zero_add] at hlp
        rw [hlp]
        exact fin_is v l h hl hm i hi a2
end Go.Proofs.YtejdjmcdlbcmeaaDoor.T
