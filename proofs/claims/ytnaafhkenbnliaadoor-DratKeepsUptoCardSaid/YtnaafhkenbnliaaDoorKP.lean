/- DratKeeps: the values of depotkit's functions. No conditions. What the reference's Write comes to: the program's own text. No conditions. What is read of a text of at most 1048576 bytes, by the program and the reference; its lengths. No conditions. depotlaw09.DratKeeps: true. Conditions: those of its parts. -/
import Derived.Test.YtnaafhkenbnliaaDoorKL
import Derived.Test.YtnaafhkenbnliaaDoorKSx
import Derived.Test.YtnaafhkenbnliaaDoorWriteR
import Derived.Test.YtnaafhkenbnliaaDoorRx5
import Derived.Test.YtnaafhkenbnliaaDoorRx8
import Derived.Test.YtnaafhkenbnliaaDoorReadR
import Derived.Test.YtnaafhkenbnliaaDoorKH
set_option linter.unusedVariables false
set_option linter.unusedSimpArgs false
namespace Go.Proofs.YtnaafhkenbnliaaDoor.KP
open Go Go.RowKit Go.Proofs.YtnaafhkenbnliaaDoorW.PrintWords Go.Proofs.YtnaafhkenbnliaaDoorW.PrintLast Go.Proofs.YtnaafhkenbnliaaDoorW.PrintMore Go.Proofs.YtnaafhkenbnliaaDoor.R

theorem headsS_own (l : List S47) : headsS l (RsL l) = l := by
  apply List.ext_getElem?
  intro j
  rcases Nat.lt_or_ge j l.length with hj | hj
  · have hx := List.getElem?_eq_getElem hj
    rw [headsS_at hx (RsL_at hx), hx, List.take_left]
  · rw [List.getElem?_eq_none (by rw [headsS_len]; omega), List.getElem?_eq_none hj]
theorem mark_is (k i : Nat) (hk : k ≤ 100) (hi : i ≤ 1000) : depotkit_mark.f (k : Int) (i : Int) = some (mkv k i) := by
  unfold depotkit_mark.f mkv
  first
    | rfl
    | (congr 1)
theorem mark_is0 (i : Nat) (hi : i ≤ 1000) : depotkit_mark.f 0 (i : Int) = some (mkv 0 i) := mark_is 0 i (by omega) hi
theorem mark_is1 (i : Nat) (hi : i ≤ 1000) : depotkit_mark.f 1 (i : Int) = some (mkv 1 i) := mark_is 1 i (by omega) hi
theorem marksL_at {i : Nat} (h : i < 64) : marksL[i]? = some (mkv 0 i) := by
  unfold marksL
  rw [List.getElem?_map, List.getElem?_range h]
  rfl
theorem marksL_take {i : Nat} (h : i < 64) : marksL.take (i + 1) = marksL.take i ++ [mkv 0 i] := by
  rw [List.take_add_one, marksL_at h]
  rfl
theorem kept_l1 (x : List Int) (hx : x.length ≤ 1000000000) (d : Nat) : ∀ (k i : Nat), i ≤ 64 → 64 - i = d → d < k → depotkit_Kept.l1 k (x ++ marksL) x (i : Int) = some true := by
  induction d with
  | zero =>
    intro k i h0 hd hk
    obtain ⟨k, rfl⟩ := succ_ofr hk
    rw [depotkit_Kept.l1, if_neg (by omega)]
  | succ d ih =>
    intro k i h0 hd hk
    obtain ⟨k, rfl⟩ := succ_ofr hk
    have e1 : wrap64 ((x.length : Int) + (i : Int)) = ((x.length + i : Nat) : Int) := by rw [w64r (by omega) (by omega)]; omega
    have e2 : wrap64 ((i : Int) + 1) = ((i + 1 : Nat) : Int) := by rw [w64r (by omega) (by omega)]; omega
    have hl : (x ++ marksL).length = x.length + 64 := by rw [List.length_append, marksL_len]
    have e3 : rd (x ++ marksL) ((x.length + i : Nat) : Int) = mkv 0 i := by
      rw [rd_natr (by omega)]
      have h1 : (x ++ marksL)[x.length + i]? = some (mkv 0 i) := by
        rw [List.getElem?_append_right (by omega), show x.length + i - x.length = i by omega, marksL_at (by omega)]
      exact (List.getElem?_eq_some_iff.1 h1).2
    rw [depotkit_Kept.l1, if_pos (by omega), e1, if_pos (by omega), if_pos (by omega), mark_is0 i (by omega)]
    simp only [Option.bind_some]
    rw [if_pos e3, e2]
    exact ih k (i + 1) (by omega) (by omega) (by omega)
theorem kept_l0 (x : List Int) (hx : x.length ≤ 1000000000) (d : Nat) : ∀ (k i : Nat), i ≤ x.length → x.length - i = d → d + 66 < k → depotkit_Kept.l0 k (x ++ marksL) x (i : Int) = some true := by
  induction d with
  | zero =>
    intro k i h0 hd hk
    obtain ⟨k, rfl⟩ := succ_ofr hk
    rw [depotkit_Kept.l0, if_neg (by omega)]
    exact kept_l1 x hx 64 k 0 (by omega) (by omega) (by omega)
  | succ d ih =>
    intro k i h0 hd hk
    obtain ⟨k, rfl⟩ := succ_ofr hk
    have hl : (x ++ marksL).length = x.length + 64 := by rw [List.length_append, marksL_len]
    have e2 : wrap64 ((i : Int) + 1) = ((i + 1 : Nat) : Int) := by rw [w64r (by omega) (by omega)]; omega
    rw [depotkit_Kept.l0, if_pos (by omega), if_pos (by omega), if_pos (by omega), if_pos (by rw [rd_natr (by omega), rd_natr (by omega), List.getElem_append_left (by omega)]), e2]
    exact ih k (i + 1) (by omega) (by omega) (by omega)
theorem kept_is (x : List Int) (hx : x.length ≤ 1000000000) (k : Nat) (hk : x.length + 66 < k) : depotkit_Kept.f k (x ++ marksL) x = some true := by
  unfold depotkit_Kept.f
  rw [if_pos (by rw [List.length_append, marksL_len, w64r (by omega) (by omega)]; omega)]
  exact kept_l0 x hx x.length k 0 (by omega) (by omega) hk
theorem lent_l1 (x : List Int) (hx : x.length ≤ 1000000000) (d : Nat) : ∀ (k i : Nat), i ≤ 64 → 64 - i = d → d < k → depotkit_Lent.l1 k (x ++ marksL.take i) (i : Int) = some (x ++ marksL) := by
  induction d with
  | zero =>
    intro k i h0 hd hk
    obtain ⟨k, rfl⟩ := succ_ofr hk
    rw [depotkit_Lent.l1, if_neg (by omega), List.take_of_length_le (by rw [marksL_len]; omega)]
  | succ d ih =>
    intro k i h0 hd hk
    obtain ⟨k, rfl⟩ := succ_ofr hk
    have e2 : wrap64 ((i : Int) + 1) = ((i + 1 : Nat) : Int) := by rw [w64r (by omega) (by omega)]; omega
    rw [depotkit_Lent.l1, if_pos (by omega), mark_is0 i (by omega)]
    simp only [Option.bind_some]
    rw [if_pos (by rw [List.length_append, List.length_take]; omega), e2, List.append_assoc, ← marksL_take (by omega)]
    exact ih k (i + 1) (by omega) (by omega) (by omega)
theorem lent_l0 (x : List Int) (hx : x.length ≤ 1000000000) (d : Nat) : ∀ (k i : Nat), i ≤ x.length → x.length - i = d → d + 66 < k → depotkit_Lent.l0 k x (x.take i) (i : Int) = some (x ++ marksL) := by
  induction d with
  | zero =>
    intro k i h0 hd hk
    obtain ⟨k, rfl⟩ := succ_ofr hk
    rw [depotkit_Lent.l0, if_neg (by omega), List.take_of_length_le (by omega)]
    have := lent_l1 x hx 64 k 0 (by omega) (by omega) (by omega)
    simpa using this
  | succ d ih =>
    intro k i h0 hd hk
    obtain ⟨k, rfl⟩ := succ_ofr hk
    have e2 : wrap64 ((i : Int) + 1) = ((i + 1 : Nat) : Int) := by rw [w64r (by omega) (by omega)]; omega
    rw [depotkit_Lent.l0, if_pos (by omega), if_pos (by omega), if_pos (by rw [List.length_take]; omega), rd_natr (by omega), ← take_succr (by omega), e2]
    exact ih k (i + 1) (by omega) (by omega) (by omega)
theorem lent_is (x : List Int) (hx : x.length ≤ 1000000000) (k : Nat) (hk : x.length + 66 < k) : depotkit_Lent.f k x = some (x ++ marksL) := lent_l0 x hx x.length k 0 (by omega) (by omega) hk
theorem over_l0 (d : Nat) : ∀ (k i : Nat) (x : List Int), x.length ≤ 1000000000 → i ≤ x.length → x.length - i = d → d < k → ∃ y, depotkit_Over.l0 k x (i : Int) = some y := by
  induction d with
  | zero =>
    intro k i x hx h0 hd hk
    obtain ⟨k, rfl⟩ := succ_ofr hk
    rw [depotkit_Over.l0, if_neg (by omega)]
    exact ⟨_, rfl⟩
  | succ d ih =>
    intro k i x hx h0 hd hk
    obtain ⟨k, rfl⟩ := succ_ofr hk
    have e2 : wrap64 ((i : Int) + 1) = ((i + 1 : Nat) : Int) := by rw [w64r (by omega) (by omega)]; omega
    rw [depotkit_Over.l0, if_pos (by omega), if_pos (by omega), e2]
    exact ih k (i + 1) _ (by rw [List.length_set]; exact hx) (by rw [List.length_set]; omega) (by rw [List.length_set]; omega) (by omega)
theorem over_is (x : List Int) (hx : x.length ≤ 1000000000) (k : Nat) (hk : x.length < k) : ∃ y, depotkit_Over.f k x = some y := over_l0 x.length k 0 x hx (by omega) (by omega) hk
theorem keptS_at (l : List S47) (i : Nat) (hi : i < 64) : ∃ v : Int, rd_T47 (l ++ behL) ((l.length + i : Nat) : Int) = ⟨false, [v]⟩ ∧ depotkit_mark.f 1 (i : Int) = some v := by
  have hll : (l ++ behL).length = l.length + 64 := by rw [List.length_append, behL_len]
  refine ⟨mkv 1 i, ?_, mark_is1 i (by omega)⟩
  rw [rdT_natr (by omega)]
  have h1 : (l ++ behL)[l.length + i]? = some ⟨false, [mkv 1 i]⟩ := by
    rw [List.getElem?_append_right (by omega), show l.length + i - l.length = i by omega, behL_at (by omega)]
  exact (List.getElem?_eq_some_iff.1 h1).2
theorem keptS_l2 (l : List S47) (hl : l.length ≤ 1000000000) (d : Nat) : ∀ (k i : Nat), i ≤ 64 → 64 - i = d → d < k → depotkit_KeptSteps.l2 k l (i : Int) l (l ++ behL) (RsL l) = some true := by
  induction d with
  | zero =>
    intro k i h0 hd hk
    obtain ⟨k, rfl⟩ := succ_ofr hk
    rw [depotkit_KeptSteps.l2, if_neg (by omega)]
  | succ d ih =>
    intro k i h0 hd hk
    obtain ⟨k, rfl⟩ := succ_ofr hk
    have e1 : wrap64 ((l.length : Int) + (i : Int)) = ((l.length + i : Nat) : Int) := by rw [w64r (by omega) (by omega)]; omega
    have e2 : wrap64 ((i : Int) + 1) = ((i + 1 : Nat) : Int) := by rw [w64r (by omega) (by omega)]; omega
    obtain ⟨v, e3, e4⟩ := keptS_at l i (by omega)
    have hll : (l ++ behL).length = l.length + 64 := by rw [List.length_append, behL_len]
    have hn := ih k (i + 1) (by omega) (by omega) (by omega)
    rw [← e2] at hn
    obtain ⟨L2, hL2⟩ : ∃ L2, l ++ behL = L2 := ⟨_, rfl⟩
    obtain ⟨R, hR⟩ : ∃ R, RsL l = R := ⟨_, rfl⟩
    rw [hL2, hR] at hn ⊢
    rw [hL2] at e3 hll
    clear hL2 hR ih
    rw [depotkit_KeptSteps.l2]
    rw [if_pos (show (i : Int) < 64 by omega)]
    rw [e1]
    rw [if_pos (show (0 : Int) ≤ ((l.length + i : Nat) : Int) by omega)]
    rw [if_pos (show ((l.length + i : Nat) : Int) < (L2.length : Int) by omega)]
    rw [e3]
    rw [if_neg (show ¬ ((⟨false, [v]⟩ : S47).f0 = true) from Bool.false_ne_true)]
    rw [if_pos (show (([v] : List Int).length : Int) = 1 from rfl)]
    rw [if_pos (show (0 : Int) < (([v] : List Int).length : Int) from Int.zero_lt_one)]
    rw [e4]
    simp only [Option.bind_some]
    rw [if_pos (show rd [v] 0 = v from rfl)]
    exact hn
theorem keptS_l1 (l : List S47) (t : Nat) (ht : t < l.length) (hl : l.length ≤ 1000000000) (hf : l[t].f1.length ≤ 1000000000) (K : Nat) (r : Bool) (hr : ∀ k, K < k → depotkit_KeptSteps.l0 k l ((t + 1 : Nat) : Int) l (l ++ behL) (RsL l) = some r) (d : Nat) :
    ∀ (k i : Nat), i ≤ l[t].f1.length → l[t].f1.length - i = d → d + K + 1 < k → depotkit_KeptSteps.l1 k l (t : Int) l[t].f1 (i : Int) l (l ++ behL) (RsL l) = some r := by
  induction d with
  | zero =>
    intro k i h0 hd hk
    obtain ⟨k, rfl⟩ := succ_ofr hk
    have e2 : wrap64 ((t : Int) + 1) = ((t + 1 : Nat) : Int) := by rw [w64r (by omega) (by omega)]; omega
    rw [depotkit_KeptSteps.l1, if_neg (by omega), e2]
    exact hr k (by omega)
  | succ d ih =>
    intro k i h0 hd hk
    obtain ⟨k, rfl⟩ := succ_ofr hk
    have e2 : wrap64 ((i : Int) + 1) = ((i + 1 : Nat) : Int) := by rw [w64r (by omega) (by omega)]; omega
    rw [depotkit_KeptSteps.l1, if_pos (by omega), if_pos (by omega), if_pos (by omega), if_pos (by omega), rdT_natr ht, if_pos (by omega), if_pos rfl, e2]
    exact ih k (i + 1) (by omega) (by omega) (by omega)
theorem keptS_l0 (l : List S47) (hl : l.length ≤ 1000000000) (M : Nat) (hM : M ≤ 1000000000) (hm : ∀ s ∈ l, s.f1.length ≤ M) (d : Nat) : ∀ (k t : Nat), t ≤ l.length → l.length - t = d → d * (M + 70) + 70 < k → depotkit_KeptSteps.l0 k l (t : Int) l (l ++ behL) (RsL l) = some true := by
  induction d with
  | zero =>
    intro k t h0 hd hk
    obtain ⟨k, rfl⟩ := succ_ofr hk
    rw [depotkit_KeptSteps.l0, if_neg (by omega)]
    exact keptS_l2 l hl 64 k 0 (by omega) (by omega) (by omega)
  | succ d ih =>
    intro k t h0 hd hk
    have hsucc : (d + 1) * (M + 70) = d * (M + 70) + (M + 70) := by rw [Nat.add_mul, Nat.one_mul]
    obtain ⟨k, rfl⟩ := succ_ofr hk
    have ht : t < l.length := by omega
    have hf := hm l[t] (List.getElem_mem ht)
    have hll : (l ++ behL).length = l.length + 64 := by rw [List.length_append, behL_len]
    have hrl : (RsL l).length = l.length := RsL_len l
    have e1 : rd_T47 (l ++ behL) (t : Int) = l[t] := by rw [rdT_natr (by omega), List.getElem_append_left ht]
    have e3 : rd_L2 (RsL l) (t : Int) = l[t].f1 ++ marksL := by
      unfold rd_L2
      rw [Int.toNat_natCast, List.getD_eq_getElem?_getD, RsL_at (List.getElem?_eq_getElem ht)]
      rfl
    rw [depotkit_KeptSteps.l0, if_pos (by omega), if_pos (by omega), if_pos (by omega), e1, rdT_natr ht, if_neg (by simp), if_pos rfl, if_pos (by omega), e3, kept_is _ (by omega) _ (by omega)]
    simp only [Option.bind_some]
    obtain ⟨k, rfl⟩ := succ_ofr (show 0 < k by omega)
    rw [depotkit_KeptSteps.j2, if_neg (by decide)]
    exact keptS_l1 l t ht hl (by omega) (d * (M + 70) + 70) true (fun k hk => ih k (t + 1) (by omega) (by omega) hk) l[t].f1.length k 0 (by omega) (by omega) (by omega)
theorem keptS_is (l : List S47) (hl : l.length ≤ 1000000000) (M : Nat) (hM : M ≤ 1000000000) (hm : ∀ s ∈ l, s.f1.length ≤ M) (k : Nat) (hk : l.length * (M + 70) + 72 < k) : depotkit_KeptSteps.f k l (l ++ behL) (RsL l) l = some true := by
  unfold depotkit_KeptSteps.f
  rw [if_pos (by rw [List.length_append, behL_len, w64r (by omega) (by omega)]; omega)]
  obtain ⟨k, rfl⟩ := succ_ofr (show 0 < k by omega)
  rw [depotkit_KeptSteps.j0, if_neg (by rw [RsL_len]; simp)]
  exact keptS_l0 l hl M hM hm l.length k 0 (by omega) (by omega) (by omega)
end Go.Proofs.YtnaafhkenbnliaaDoor.KP

set_option linter.unusedVariables false
set_option linter.unusedSimpArgs false
namespace Go.Proofs.YtnaafhkenbnliaaDoor.R
open Go.RowKit Go.Lib Go.Proofs.YtnaafhkenbnliaaDoorW.PrintWords Go.Proofs.YtnaafhkenbnliaaDoorW.PrintLast Go.Proofs.YtnaafhkenbnliaaDoorW.PrintMore

theorem refSound_l0 (l : List Int) (hl : l.length < 17592186044416) (d : Nat) : ∀ (k i : Nat), i ≤ l.length → l.length - i = d → d < k → depotref01_Sound.l0 k l (i : Int) = some ((l.drop i).all litOk) := by
  induction d with
  | zero =>
    intro k i h0 hd hk
    obtain ⟨k, rfl⟩ := succ_ofr hk
    rw [depotref01_Sound.l0, if_neg (by omega), List.drop_of_length_le (by omega)]
    rfl
  | succ d ih =>
    intro k i h0 hd hk
    obtain ⟨k, rfl⟩ := succ_ofr hk
    rw [depotref01_Sound.l0, if_pos (by omega), if_pos (by omega), rd_natr (by omega), refFormed_is, List.drop_eq_getElem_cons (by omega), List.all_cons]
    simp only [Option.bind_some]
    cases h : litOk (l[i]'(by omega)) with
    | false => simp
    | true =>
      rw [if_pos rfl, w64r (by omega) (by omega)]
      simpa using ih k (i + 1) (by omega) (by omega) (by omega)
theorem refSound_is (l : List Int) (hl : l.length < 17592186044416) (k : Nat) (hk : l.length < k) : depotref01_Sound.f k l = some (l.all litOk) := by
  unfold depotref01_Sound.f
  exact refSound_l0 l hl l.length k 0 (by omega) (by omega) hk

/-- Bytes as numbers. -/
def nums (t : List UInt8) : List Int := t.map fun b => (b.toNat : Int)
theorem nums_append (a b : List UInt8) : nums (a ++ b) = nums a ++ nums b := List.map_append
theorem nums_length (a : List UInt8) : (nums a).length = a.length := List.length_map ..
theorem bytesOf_nums (a : List UInt8) : bytesOf ⟨a.toArray⟩ = nums a := rfl
theorem strOf_nums (a : List UInt8) : strOfNums (nums a) = ⟨a.toArray⟩ := by
  unfold strOfNums nums
  rw [List.map_map]
  congr 2
  conv => rhs; rw [← List.map_id a]
  apply List.map_congr_left
  intro b _
  simp

theorem ref_l1 (L : List S47) (t : Nat) (ht : t < L.length) (r : Option (ByteArray × Int)) (K : Nat) (out0 : List Int) (hs : L[t].f1.all litOk = true) (hc : L[t].f1.length ≤ 1048576) (hroom : out0.length ≤ 60000000000000) (hr : ∀ k, K < k → depotref09_Write.l0 k L (out0 ++ nums (wordsT L[t].f1) ++ nums [48, 10]) (wrap64 ((t : Int) + 1)) = r) (d : Nat) :
    ∀ (k i : Nat), i ≤ L[t].f1.length → L[t].f1.length - i = d → d + K + 1 < k → depotref09_Write.l1 k L (out0 ++ nums (wordsT (L[t].f1.take i))) (t : Int) (i : Int) = r := by
  induction d with
  | zero =>
    intro k i h0 hd hk
    obtain ⟨k, rfl⟩ := succ_ofr hk
    have hlen := wordsT_length L[t].f1 hs
    rw [depotref09_Write.l1, if_pos (by omega), if_pos (by omega), rdT_natr ht, if_neg (by omega), List.take_of_length_le (by omega), if_pos (by rw [List.length_append, nums_length]; omega)]
    exact hr k (by omega)
  | succ d ih =>
    intro k i h0 hd hk
    obtain ⟨k, rfl⟩ := succ_ofr hk
    have hlen := wordsT_length (L[t].f1.take i) (List.all_eq_true.2 fun x hx => List.all_eq_true.1 hs x (List.mem_of_mem_take hx))
    rw [List.length_take] at hlen
    have hxr := litOk_range (List.all_eq_true.1 hs L[t].f1[i] (List.getElem_mem (by omega)))
    have hxl := Lib.itoa_length_le L[t].f1[i] (by omega) (by omega)
    have e : out0 ++ nums (wordsT (L[t].f1.take i)) ++ nums (Lib.itoa L[t].f1[i]) ++ [32] = out0 ++ nums (wordsT (L[t].f1.take (i + 1))) := by
      rw [take_succr (by omega), wordsT_snoc, nums_append, nums_append, List.append_assoc, List.append_assoc]
      rfl
    rw [depotref09_Write.l1, if_pos (by omega), if_pos (by omega), rdT_natr ht, if_pos (by omega), if_pos (by omega), rd_natr (by omega), strconv_Itoa_21.f, if_pos (by omega)]
    simp only [Option.bind_some]
    rw [bytesOf_nums]
    have hsz : (⟨(Lib.itoa L[t].f1[i]).toArray⟩ : ByteArray).size = (Lib.itoa L[t].f1[i]).length := rfl
    rw [hsz, if_pos (by rw [List.length_append, nums_length]; omega), if_pos (by rw [List.length_append, List.length_append, nums_length, nums_length]; omega), e, w64r (by omega) (by omega)]
    exact ih k (i + 1) (by omega) (by omega) (by omega)

theorem ref_l0 (l : List S47) (hm : ∀ s ∈ l, s.f1.length ≤ 1048576) (hl : l.length ≤ 1048576) (d : Nat) : ∀ (i : Nat), i ≤ l.length → l.length - i = d → (∀ s ∈ l.take i, soundS s = true) →
    ∀ k, d * (1048576 + 20) + 2 < k → depotref09_Write.l0 k l (nums (stepsT (l.take i))) (i : Int) = some (dratR l) := by
  induction d with
  | zero =>
    intro i h0 hd hs k hk
    rw [List.take_of_length_le (by omega)] at hs ⊢
    have e : dratR l = (⟨(stepsT l).toArray⟩, 0) := by
      unfold dratR
      rw [if_pos (List.all_eq_true.2 hs)]
    obtain ⟨k, rfl⟩ := succ_ofr hk
    rw [depotref09_Write.l0, if_neg (by omega), e, strOf_nums]
  | succ d ih =>
    intro i h0 hd hs k hk
    have hlt : i < l.length := by omega
    have hsm := hm l[i] (List.getElem_mem hlt)
    have hlen := stepsT_length (l.take i) 1048576 (fun s h => hm s (List.mem_of_mem_take h)) hs
    have hlen2 : (stepsT (l.take i)).length ≤ 1048576 * (22 * 1048576 + 4) := Nat.le_trans hlen (Nat.mul_le_mul_right _ (by rw [List.length_take]; omega))
    clear hlen
    have hsucc : (d + 1) * (1048576 + 20) = d * (1048576 + 20) + (1048576 + 20) := by rw [Nat.add_mul, Nat.one_mul]
    obtain ⟨k, rfl⟩ := succ_ofr hk
    rw [depotref09_Write.l0, if_pos (by omega), if_pos (by omega), rdT_natr hlt, refSound_is _ (by omega) _ (by omega)]
    simp only [Option.bind_some]
    cases hb : soundS l[i] with
    | false =>
      have e : dratR l = (⟨#[]⟩, 1) := by
        unfold dratR
        rw [if_neg]
        intro h
        have := List.all_eq_true.1 h l[i] (List.getElem_mem hlt)
        rw [hb] at this
        cases this
      have hb' : l[i].f1.all litOk = false := hb
      rw [hb', if_neg (by decide), e]
    | true =>
      have hb' : l[i].f1.all litOk = true := hb
      have hs' : ∀ s ∈ l.take (i + 1), soundS s = true := by
        intro s h
        rw [take_succr hlt, List.mem_append, List.mem_singleton] at h
        rcases h with h | rfl
        · exact hs s h
        · exact hb
      have h1 := ih (i + 1) (by omega) (by omega) hs'
      have hhl : (headT l[i].f0).length ≤ 2 := by unfold headT; split <;> simp
      have main : ∀ k, d * (1048576 + 20) + 1048576 + 6 < k → depotref09_Write.j1 k l (nums (stepsT (l.take i)) ++ nums (headT l[i].f0)) (i : Int) = some (dratR l) := by
        intro k hk
        obtain ⟨k, rfl⟩ := succ_ofr hk
        rw [depotref09_Write.j1]
        have := ref_l1 l i hlt (some (dratR l)) (d * (1048576 + 20) + 2) (nums (stepsT (l.take i)) ++ nums (headT l[i].f0)) hb' (by omega) (by rw [List.length_append, nums_length, nums_length]; omega) (fun k hk => by
          have e : nums (stepsT (l.take i)) ++ nums (headT l[i].f0) ++ nums (wordsT l[i].f1) ++ nums [48, 10] = nums (stepsT (l.take (i + 1))) := by
            rw [take_succr hlt, stepsT_snoc, stepT]; simp only [nums_append, List.append_assoc]
          rw [e, w64r (by omega) (by omega)]; exact h1 k hk) l[i].f1.length k 0 (by omega) (by omega) (by omega)
        simpa [wordsT, nums] using this
      rw [hb', if_pos rfl]
      cases hf : l[i].f0 with
      | true =>
        rw [if_pos rfl, if_pos (by rw [nums_length]; omega)]
        have := main k (by omega)
        rw [hf] at this
        exact this
      | false =>
        rw [if_neg (by decide)]
        have := main k (by omega)
        rw [hf] at this
        simpa [headT, nums] using this

theorem refwrite_is (l : List S47) (hm : ∀ s ∈ l, s.f1.length ≤ 1048576) (hl : l.length ≤ 1048576) (k : Nat) (hk : 1099532900000 < k) : depotref09_Write.f k l = some (dratR l) := by
  have h2 : l.length * (1048576 + 20) ≤ 1048576 * (1048576 + 20) := Nat.mul_le_mul_right _ hl
  have := ref_l0 l hm hl l.length 0 (by omega) (by omega) (by simp) k (by omega)
  simpa [depotref09_Write.f, stepsT, nums] using this
theorem write_is (l : List S47) (hm : ∀ s ∈ l, s.f1.length ≤ 1048576) (hl : l.length ≤ 1048576) : drat_Write.f l = some (dratR l) := by
  unfold drat_Write.f
  rw [if_pos ⟨hl, hm⟩]
end Go.Proofs.YtnaafhkenbnliaaDoor.R

set_option linter.unusedVariables false
set_option linter.unusedSimpArgs false
namespace Go.Proofs.YtnaafhkenbnliaaDoor.R
open Go.RowKit Go.Lib Go.Proofs.YtnaafhkenbnliaaDoorW.PrintWords Go.Proofs.YtnaafhkenbnliaaDoorW.PrintLast Go.Proofs.YtnaafhkenbnliaaDoorW.PrintMore

/-- How long what is read may be. -/
theorem takesF_bound (ws : List ByteArray) : ∀ (st : St) (m : Nat), (∀ s ∈ st.steps, s.f1.length ≤ m) → st.lits.length ≤ m → (∀ s ∈ (takesF st ws).1.steps, s.f1.length ≤ m + ws.length) ∧ (takesF st ws).1.lits.length ≤ m + ws.length := by
  induction ws with
  | nil => intro st m h1 h2; simpa [takesF] using ⟨h1, h2⟩
  | cons w r ih =>
    intro st m h1 h2
    simp only [takesF]
    cases h : takeF st w with
    | none => exact ⟨fun s hs => by have := h1 s hs; simp only [List.length_cons]; omega, by simp only [List.length_cons]; omega⟩
    | some st' =>
      have h3 : (∀ s ∈ st'.steps, s.f1.length ≤ m + 1) ∧ st'.lits.length ≤ m + 1 := by
        unfold takeF at h
        split at h
        · obtain rfl := Option.some.inj h
          exact ⟨fun s hs => by have := h1 s hs; omega, by simp only; omega⟩
        · split at h
          · obtain rfl := Option.some.inj h
            refine ⟨fun s hs => ?_, by simp⟩
            rcases List.mem_append.1 hs with hs | hs
            · have := h1 s hs; omega
            · rw [List.mem_singleton.1 hs]
              exact Nat.le_succ_of_le h2
          · split at h
            · obtain rfl := Option.some.inj h
              exact ⟨fun s hs => by have := h1 s hs; omega, by simp; omega⟩
            · cases h
      have := ih st' (m + 1) h3.1 h3.2
      simp only [List.length_cons]
      exact ⟨fun s hs => by have := this.1 s hs; omega, by omega⟩
theorem lineF_bound (st : St) (a : List UInt8) (m : Nat) (h1 : ∀ s ∈ st.steps, s.f1.length ≤ m) (h2 : st.lits.length ≤ m) : (∀ s ∈ (lineF st a).1.steps, s.f1.length ≤ m + a.length + 1) ∧ (lineF st a).1.lits.length ≤ m + a.length + 1 ∧ (lineF st a).1.steps.length ≤ st.steps.length + a.length + 1 := by
  unfold lineF
  split
  · exact ⟨fun s hs => by have := h1 s hs; omega, by simp only; omega, by simp only; omega⟩
  · have hw := wordsB_length (mk_ a)
    have hz := mk_size a
    have h3 := takesF_bound (wordsB (mk_ a)) st m h1 h2
    have h4 := takesF_length (wordsB (mk_ a)) st
    exact ⟨fun s hs => by have := h3.1 s hs; omega, by omega, by omega⟩
/-- The bytes of lines, one more each. -/
def mL : List (List UInt8) → Nat
  | [] => 0
  | a :: L => a.length + 1 + mL L
theorem cut_total (l : List UInt8) : (cut l [10]).1.length ≤ l.length ∧ (0 < (cut l [10]).2.1.length → (cut l [10]).1.length + 1 + (cut l [10]).2.1.length ≤ l.length) := by
  unfold cut
  split
  · simp only [List.length_take, List.length_drop, List.length_cons, List.length_nil]; omega
  · simp
theorem mL_lines (n : Nat) : ∀ (l : List UInt8), mL (linesL n l) ≤ l.length + 1 := by
  induction n with
  | zero => intro l; simp [linesL, mL]
  | succ n ih =>
    intro l
    rw [linesL]
    split
    · simp [mL]
    · have h1 := cut_total l
      have h2 := ih (cut l [10]).2.1
      rw [mL]
      by_cases h : 0 < (cut l [10]).2.1.length
      · have := h1.2 h
        omega
      · have e : (cut l [10]).2.1 = [] := List.eq_nil_of_length_eq_zero (by omega)
        rw [e, linesL_nil]
        simp only [mL]
        omega
theorem linesF_bound (L : List (List UInt8)) : ∀ (n : Nat) (st : St) (m : Nat), (∀ s ∈ st.steps, s.f1.length ≤ m) → st.lits.length ≤ m →
    (∀ s ∈ (linesF L n st).1.steps, s.f1.length ≤ m + mL L) ∧ (linesF L n st).1.steps.length ≤ st.steps.length + mL L := by
  induction L with
  | nil => intro n st m h1 h2; simpa [linesF, mL] using h1
  | cons a r ih =>
    intro n st m h1 h2
    have hb := lineF_bound st a m h1 h2
    simp only [linesF, mL]
    split
    · have := ih (n + 1) (lineF st a).1 (m + a.length + 1) hb.1 hb.2.1
      exact ⟨fun s hs => by have := this.1 s hs; omega, by omega⟩
    · exact ⟨fun s hs => by have := hb.1 s hs; omega, by simp only; omega⟩
theorem readF_bound (s : ByteArray) : (∀ x ∈ (readF s).1.steps, x.f1.length ≤ s.size + 1) ∧ (readF s).1.steps.length ≤ s.size + 1 := by
  have hsz : s.data.toList.length = s.size := by simp
  have hl := mL_lines s.size s.data.toList
  have h := linesF_bound (linesL s.size s.data.toList) 0 st0 0 (by simp [st0]) (by simp [st0])
  have e0 : st0.steps.length = 0 := rfl
  unfold readF
  exact ⟨fun x hx => by have := h.1 x hx; omega, by omega⟩
/-- What the program's Read and the reference's come to. -/
def readR (s : ByteArray) : List S47 × Int × Int := if (readF s).2 = 0 then ((readF s).1.steps, 0, 0) else ([], 90, ((readF s).2 : Int))
theorem read_is (s : ByteArray) (hs : s.size ≤ 1048576) : drat_Read.f s = some (readR s) := by
  unfold drat_Read.f readR
  rw [if_pos (by omega)]
  obtain ⟨st, line, hr⟩ : ∃ st line, readF s = (st, line) := ⟨_, _, rfl⟩
  rw [hr]
  by_cases h : line = 0
  · simp [h]
  · simp [h]
theorem refread_is (s : ByteArray) (hs : s.size ≤ 1048576) (k : Nat) (hk : 4194304000010 < k) : depotref09_Read.f k s = some (readR s) := by
  unfold depotref09_Read.f readR
  rw [parse_is s hs k hk]
  simp only [Option.bind_some]
  by_cases h : (readF s).2 = 0
  · rw [if_pos h, if_neg (by omega)]
  · rw [if_neg h, if_pos (by omega)]
theorem readR_bound (s : ByteArray) : (∀ x ∈ (readR s).1, x.f1.length ≤ s.size + 1) ∧ (readR s).1.length ≤ s.size + 1 := by
  unfold readR
  split
  · exact readF_bound s
  · simp
theorem refsteps_is (s : ByteArray) (hs : s.size ≤ 1048576) (k : Nat) (hk : 4194304000010 < k) : depotref09_Steps.f k s = some (readF s).1.steps := by
  unfold depotref09_Steps.f
  rw [parse_is s hs k hk]
  rfl
end Go.Proofs.YtnaafhkenbnliaaDoor.R

set_option linter.unusedVariables false
set_option linter.unusedSimpArgs false
namespace Go.Proofs.YtnaafhkenbnliaaDoor.KP
open Go Go.RowKit Go.Proofs.YtnaafhkenbnliaaDoorW.PrintWords Go.Proofs.YtnaafhkenbnliaaDoorW.PrintLast Go.Proofs.YtnaafhkenbnliaaDoorW.PrintMore Go.Proofs.YtnaafhkenbnliaaDoor.R
attribute [local go_sem] Oper.semAt_some

theorem below_tr {A B C : World} (h1 : Below A.heap.size A B) (h2 : Below B.heap.size B C) : Below A.heap.size A C := h1.trans (h2.mono h1.size)
theorem steps_calls (s : ByteArray) (w : World) : Calls Tryd.prog 11 #[.string s] w fun e w' => e = .returned (.func (.func 28) #[] #[.pointer (some ⟨w.heap.size, 0, none⟩)]) ∧ w' = w.alloc (.cells #[.string s] 9 (0, 0)) := by
  go_enter Tryd.func11, Tryd.ntmps11
  go_wp2_with fail
  go_ret
  exact ⟨rfl, rfl⟩
theorem eqIn_func (d : Nat) (f : Fn) (a b : Array Value) (w : World) : (Op.equalIn (d + 1) 36 (.func f a b) .nilFunc).run Tryd.prog w = .ok false w := by
  simp [Op.equalIn, run_underlying Tryd.underlying36]
theorem eq_func (f : Fn) (a b : Array Value) (w : World) : (Op.equal 36 (.func f a b) .nilFunc).run Tryd.prog w = .ok false w := eqIn_func 9999 f a b w
theorem eql_func (f : Fn) (a b : Array Value) (w : World) : (binOp .eql 36 (.func f a b) .nilFunc).run Tryd.prog w = .ok (.bool false) w := by
  simp only [binOp]
  simp [eq_func f a b w]
/-- The five lists' cells. -/
def fiveX (Xa Xb Xc Xd Xe : List Value) (j : Nat) : List Value := [Xa, Xb, Xc, Xd, Xe].getD j []
theorem S_read {w W : World} {base c : Nat} {ok : Nat → Prop} {A : Option Addr} {xs : List S47} (h : Kd.S k47 47 w base ok (.slice A xs.length c) xs) (hb : Below w.heap.size w W) : Kd.C k47 W A xs.length xs ∧ xs.length ≤ c :=
  ⟨Kd.C_below (Kd.S_reads' h).2.2 hb, (Kd.S_reads' h).2.1⟩
theorem Op47.reads {w : World} {lo hi c : Nat} {A : Option Addr} {l : List S47} {X : List Value} (h : Op47 w lo hi (.slice A l.length c) l X) : Kd.C k47 w A l.length l ∧ l.length ≤ c := by
  have ho := h.row
  have hc : l.length ≤ c ∧ l.length ≤ 9223372036854775807 := by
    rcases ho.2 with ⟨h0, h1⟩ | ⟨g, cap, cur, hv, _, _, hn, hc, _⟩
    · injection h0 with _ _ h2
      omega
    · injection hv with _ _ h2
      unfold maxLen at hc
      omega
  refine ⟨⟨rfl, hc.2, fun hp => ?_⟩, hc.1⟩
  obtain ⟨g, cap, hv, _, _⟩ := ho.form hp
  injection hv with e1 _ e3
  subst e1
  refine ⟨_, rfl, fun j x hx => ?_⟩
  obtain ⟨A', c', h0, h1, h2⟩ := h.fld j x hx
  have h3 := Kd.R_reads' h2
  refine ⟨[.bool x.f0, .slice A' x.f1.length c'], rfl, k47_mk w x h3.2.1 h3.2.2, fun i u hu => ?_⟩
  refine own_news ho (j * 2 + i) u ?_
  match i, hu with
  | 0, hu => rw [← hu]; exact h0
  | 1, hu => rw [← hu]; exact h1
  | i + 2, hu => simp at hu
section
variable {A : Option Addr} {c n k : Nat} {x : List S47} {r1 : ByteArray} {r2 : Int} {w : World}
theorem writeN (hn : x.length = n) (hr : Kd.C k47 w A n x) (hc : n ≤ c) (hE : Env w) (h : drat_Write.f x = some (r1, r2)) : Calls Tryd.prog 5 #[.slice A n c] w fun e w' => e = .returned (.tuple #[.string r1, .int .i64 r2]) ∧ Below w.heap.size w w' := by
  subst hn
  exact drat_Write.calls A c x r1 r2 w hr hc hE h
theorem refwriteN (hn : x.length = n) (hr : Kd.C k47 w A n x) (hc : n ≤ c) (hE : Env w) (h : depotref09_Write.f k x = some (r1, r2)) : Calls Tryd.prog 6 #[.slice A n c] w fun e w' => e = .returned (.tuple #[.string r1, .int .i64 r2]) ∧ Below w.heap.size w w' := by
  subst hn
  exact depotref09_Write.calls k A c x r1 r2 w hr hc hE h
theorem keptN {l ins whole : List S47} {Rs : List (List Int)} {Ai Ar Al Aw : Option Addr} {ci cr cl cw ni nr nw : Nat} (hni : ins.length = ni) (hnw : whole.length = nw) (hnr : Rs.length = nr) (hi : Kd.C k47 w Ai ni ins) (hci : ni ≤ ci) (hw : Kd.C k47 w Aw nw whole) (hcw : nw ≤ cw) (hr : Kd.C (Kd.slice 3 (Kd.int .i64)) w Ar nr Rs) (hcr : nr ≤ cr) (hl : Kd.C k47 w Al l.length l) (hcl : l.length ≤ cl) (h : depotkit_KeptSteps.f k ins whole Rs l = some true) :
    Calls Tryd.prog 7 #[.agg #[.slice Ai ni ci, .slice Aw nw cw, .slice Ar nr cr], .slice Al l.length cl] w fun e w' => e = .returned (.bool true) ∧ Below w.heap.size w w' := by
  subst hni hnr hnw
  exact depotkit_KeptSteps.calls k Ai ci ins Aw cw whole Ar cr Rs Al cl l true w hi hci hw hcw hr hcr hl hcl h
theorem copyN {y : List S47} (hr : Kd.C k47 w A x.length x) (hc : x.length ≤ c) (h : depotref00_CopySteps.f k x = some y) : Calls Tryd.prog 8 #[.slice A x.length c] w fun e w' => ∃ A2 c2, e = .returned (.slice A2 y.length c2) ∧ Kd.C k47 w' A2 y.length y ∧ y.length ≤ c2 ∧ Below w.heap.size w w' := by
  refine (depotref00_CopySteps.calls k A c x y w hr hc h).mono ?_
  rintro e w' ⟨v, rfl, hS, hB⟩
  obtain ⟨A2, c2, rfl⟩ := Kd.S_slice hS
  have := Kd.S_reads' hS
  exact ⟨A2, c2, rfl, this.2.2, this.2.1, hB⟩
end
set_option maxHeartbeats 16000000 in
set_option maxRecDepth 100000 in
theorem keeps_calls (k : Nat) (hk : 5000000000000 < k) (l m : List S47) (A0 : Option Addr) (c0 : Nat) (A1 : Option Addr) (c1 : Nat) (s t : ByteArray) (w : World) (hr0 : Kd.C k47 w A0 l.length l) (hc0 : l.length ≤ c0) (hr1 : Kd.C k47 w A1 m.length m) (hc1 : m.length ≤ c1) (hE : Env w) (hs : s.size ≤ 1048576) (ht : t.size ≤ 1048576)
    (hlen : l.length ≤ 1048576) (hfl : ∀ x ∈ l, x.f1.length ≤ 1048576) (hlem : m.length ≤ 1048576) (hfm : ∀ x ∈ m, x.f1.length ≤ 1048576) :
    Calls Tryd.prog 3 #[.slice A0 l.length c0, .slice A1 m.length c1, .string s, .string t] w fun e w' => e = .returned (.bool true) ∧ Below w.heap.size w w' := by
  have hfo : ∀ x ∈ overS l.length, x.f1.length ≤ 1048576 := fun x hx => by
    obtain ⟨j, hj⟩ := List.mem_iff_getElem?.1 hx
    have hjl : j < l.length := by
      have := (List.getElem?_eq_some_iff.1 hj).1
      rwa [overS_len] at this
    rw [overS_at hjl] at hj
    injection hj with hj
    rw [← hj]
    show 2 ≤ 1048576
    omega
  have HK : Aside0 (depotkit_KeptSteps.f k l (l ++ behL) (RsL l) l = some true) := ⟨keptS_is l (by omega) 1048576 (by omega) hfl k (by
    have := Nat.mul_le_mul_right (1048576 + 70) hlen
    omega)⟩
  have HL : Aside0 (∀ x ∈ l, depotkit_Lent.f k x.f1 = some (x.f1 ++ marksL)) := ⟨fun x hx => lent_is _ (by have := hfl x hx; omega) k (by have := hfl x hx; omega)⟩
  have HOV : Aside0 (∀ R ∈ RsL l, ∃ R', depotkit_Over.f k R = some R') := ⟨fun R hR => by
    obtain ⟨x, hx, rfl⟩ := List.mem_map.1 hR
    have h1 := hfl x hx
    exact over_is _ (by rw [List.length_append, marksL_len]; omega) k (by rw [List.length_append, marksL_len]; omega)⟩
  have HCP : Aside0 (depotref00_CopySteps.f k m = some m) := ⟨copySteps_is m 1048576 hfm (by omega) (by omega) k (by omega)⟩
  obtain ⟨⟨o1, o2⟩, ho⟩ : ∃ r, dratR l = r := ⟨_, rfl⟩
  obtain ⟨⟨p1, p2⟩, hp⟩ : ∃ r, dratR (overS l.length) = r := ⟨_, rfl⟩
  obtain ⟨⟨q1, q2⟩, hq⟩ : ∃ r, dratR m = r := ⟨_, rfl⟩
  have HW1 : Aside0 (drat_Write.f l = some (o1, o2)) := ⟨by rw [← ho]; exact write_is l hfl hlen⟩
  have HW2 : Aside0 (depotref09_Write.f k l = some (o1, o2)) := ⟨by rw [← ho]; exact refwrite_is l hfl hlen k (by omega)⟩
  have HW3 : Aside0 (drat_Write.f (overS l.length) = some (p1, p2)) := ⟨by rw [← hp]; exact write_is _ hfo (by rw [overS_len]; exact hlen)⟩
  have HW4 : Aside0 (depotref09_Write.f k (overS l.length) = some (p1, p2)) := ⟨by rw [← hp]; exact refwrite_is _ hfo (by rw [overS_len]; exact hlen) k (by omega)⟩
  have HW5 : Aside0 (drat_Write.f m = some (q1, q2)) := ⟨by rw [← hq]; exact write_is m hfm hlem⟩
  have HB1 := readR_bound s
  have HB2 := readR_bound t
  have HB3 := readF_bound s
  obtain ⟨⟨a, e1, n1⟩, ha⟩ : ∃ r, readR s = r := ⟨_, rfl⟩
  obtain ⟨⟨b, e2, n2⟩, hb⟩ : ∃ r, readR t = r := ⟨_, rfl⟩
  have HR1 : Aside0 (drat_Read.f s = some (a, e1, n1)) := ⟨by rw [← ha]; exact read_is s hs⟩
  have HR2 : Aside0 (depotref09_Read.f k s = some (a, e1, n1)) := ⟨by rw [← ha]; exact refread_is s hs k (by omega)⟩
  have HR3 : Aside0 (drat_Read.f t = some (b, e2, n2)) := ⟨by rw [← hb]; exact read_is t ht⟩
  have HR4 : Aside0 (depotref09_Read.f k t = some (b, e2, n2)) := ⟨by rw [← hb]; exact refread_is t ht k (by omega)⟩
  have HST : Aside0 (depotref09_Steps.f k s = some (readF s).1.steps) := ⟨refsteps_is s hs k (by omega)⟩
  rw [ha] at HB1
  rw [hb] at HB2
  simp only at HB1 HB2
  have HH := fun (g : Nat) (w : World) (hE : Env w) hg => handed_calls s (by omega) g w hE hg (by have := HB3.2; omega)
  obtain ⟨st, hst⟩ : ∃ st, (readF s).1.steps = st := ⟨_, rfl⟩
  rw [hst] at HST HB3 HH
  have HH := Aside0.mk HH
  have HSA : Aside0 (depotref00_SameSteps.f k a a = some true) := ⟨sameSteps_self a 1048577 (fun x hx => by have := HB1.1 x hx; omega) (by omega) (by omega) k (by omega)⟩
  have HSB : Aside0 (depotref00_SameSteps.f k b b = some true) := ⟨sameSteps_self b 1048577 (fun x hx => by have := HB2.1 x hx; omega) (by omega) (by omega) k (by omega)⟩
  have HSS : Aside0 (depotref00_SameSteps.f k st st = some true) := ⟨sameSteps_self st 1048577 (fun x hx => by have := HB3.1 x hx; omega) (by omega) (by omega) k (by omega)⟩
  have HB : Aside0 (((∀ x ∈ a, x.f1.length ≤ 1048577) ∧ a.length ≤ 1048577) ∧ ((∀ x ∈ b, x.f1.length ≤ 1048577) ∧ b.length ≤ 1048577) ∧ ((∀ x ∈ st, x.f1.length ≤ 1048577) ∧ st.length ≤ 1048577)) :=
    ⟨⟨fun x hx => by have := HB1.1 x hx; omega, by omega⟩, ⟨fun x hx => by have := HB2.1 x hx; omega, by omega⟩, fun x hx => by have := HB3.1 x hx; omega, by omega⟩
  have HR0 := Aside0.mk hr0
  have HRM := Aside0.mk hr1
  have HE := Aside0.mk hE
  have HFL := Aside0.mk hfl
  clear hr0 hr1 hE hfl hfm hfo ho hp hq ha hb hst HB1 HB2 HB3
  go_enter Tryd.func3, Tryd.ntmps3
  go_wp2_with fail
  refine (lentSteps_calls k l A0 c0 w HR0.out hc0 (by omega) (fun x hx => by have := HFL.out x hx; omega) HL.out).mono ?_
  rintro e w2 ⟨A, ci, rowsV, rs, cs, rfl, hP, hB2⟩
  obtain ⟨g, ci', eV, hci, hCa, hCi⟩ := hP.reads
  obtain ⟨rfl, rfl⟩ : A = some ⟨g, 0, none⟩ ∧ ci = ci' := by injection eV with e1 _ e3; exact ⟨e1, e3⟩
  obtain ⟨Ar, cr, rfl, hcr, hCr⟩ := hP.rowsC
  rw [RsL_len] at hcr hCr hP ⊢
  rw [headsS_own] at hCa hCi
  have HP := Aside0.mk hP
  have HB2 := Aside0.mk hB2
  have HCA := Aside0.mk hCa
  have HCI := Aside0.mk hCi
  have HCR := Aside0.mk hCr
  have hco : l.length ≤ ci := by omega
  clear hP hB2 hCa hCi hCr eV
  go_wp2_with fail
  have hbx : (w2.alloc (.cells #[.slice (some ⟨g, 0, none⟩) l.length ci, .slice (some ⟨g, 0, none⟩) (l.length + 64) ci, .slice Ar l.length cr] 25)).heap[w2.heap.size]? = some (.cells #[.slice (some ⟨g, 0, none⟩) l.length ci, .slice (some ⟨g, 0, none⟩) (l.length + 64) ci, .slice Ar l.length cr] 25 (0, 0)) := heap_alloc_new w2 _
  have h23 : Below w2.heap.size w2 (w2.alloc (.cells #[.slice (some ⟨g, 0, none⟩) l.length ci, .slice (some ⟨g, 0, none⟩) (l.length + 64) ci, .slice Ar l.length cr] 25)) := alloc_below _ _
  obtain ⟨X, hX⟩ : ∃ X, w2.heap.size = X := ⟨_, rfl⟩
  generalize w2.alloc (.cells #[.slice (some ⟨g, 0, none⟩) l.length ci, .slice (some ⟨g, 0, none⟩) (l.length + 64) ci, .slice Ar l.length cr] 25) = w3 at hbx h23 ⊢
  rw [hX] at hbx ⊢
  have H23 := Aside0.mk h23
  have H03 := Aside0.mk (below_tr HB2.out h23)
  have FB := Aside0.mk (fun (W : World) (h : Below w3.heap.size w3 W) => blk_below hbx h)
  have FI := Aside0.mk (fun (W : World) (h : Below w3.heap.size w3 W) => Kd.C_below HCI.out (below_tr H23.out h))
  have FIA := Aside0.mk (fun (W : World) (h : Below w3.heap.size w3 W) => Kd.C_below HCA.out (below_tr H23.out h))
  have FL := Aside0.mk (fun (W : World) (h : Below w3.heap.size w3 W) => Kd.C_below HR0.out (below_tr H03.out h))
  have FM := Aside0.mk (fun (W : World) (h : Below w3.heap.size w3 W) => Kd.C_below HRM.out (below_tr H03.out h))
  have FR := Aside0.mk (fun (W : World) (h : Below w3.heap.size w3 W) => Kd.C_below HCR.out (below_tr H23.out h))
  have FE := Aside0.mk (fun (W : World) (h : Below w3.heap.size w3 W) => HE.out.below (below_tr H03.out h))
  have FP := Aside0.mk (fun (W : World) (h : Below w3.heap.size w3 W) => HP.out.below (below_tr H23.out h))
  have G3 := Aside0.mk (Below.refl w3.heap.size w3)
  have hwl : (l ++ behL).length = l.length + 64 := by rw [List.length_append, behL_len]
  have HWL := Aside0.mk hwl
  clear hbx h23 hX hwl HCI HCA HR0 HRM HCR HP HL HFL
  refine (writeN (x := l) (r1 := o1) (r2 := o2) rfl (FI.out _ G3.out) hco (FE.out _ G3.out) HW1.out).mono ?_
  rintro e w4 ⟨rfl, hbz⟩
  have G4 := Aside0.mk (below_tr G3.out hbz)
  clear hbz G3
  go_wp2_with fail
  refine (refwriteN (x := l) (k := k) (r1 := o1) (r2 := o2) rfl (FL.out _ G4.out) hc0 (FE.out _ G4.out) HW2.out).mono ?_
  rintro e w5 ⟨rfl, hbz⟩
  have G5 := Aside0.mk (below_tr G4.out hbz)
  clear hbz G4
  have b0 : w5.cell? ⟨X, 0, none⟩ = some (Value.slice (some ⟨g, 0, none⟩) l.length ci) := (blk_cell (FB.out _ G5.out) 0).trans rfl
  have b1 : w5.cell? ⟨X, 1, none⟩ = some (Value.slice (some ⟨g, 0, none⟩) (l.length + 64) ci) := (blk_cell (FB.out _ G5.out) 1).trans rfl
  have b2 : w5.cell? ⟨X, 2, none⟩ = some (Value.slice Ar l.length cr) := (blk_cell (FB.out _ G5.out) 2).trans rfl
  go_wp2_with fail
  clear b0 b1 b2
  refine (keptN (k := k) rfl HWL.out (RsL_len l) (FI.out _ G5.out) hco (FIA.out _ G5.out) hci (FR.out _ G5.out) hcr (FL.out _ G5.out) hc0 HK.out).mono ?_
  rintro e w6 ⟨rfl, hbz⟩
  have G6 := Aside0.mk (below_tr G5.out hbz)
  clear hbz G5
  go_wp2_with fail
  refine (copyN (FM.out _ G6.out) hc1 HCP.out).mono ?_
  rintro e w7 ⟨A2, c2, rfl, hC2, hc2, hbz⟩
  have G7 := Aside0.mk (below_tr G6.out hbz)
  clear hbz G6
  go_wp2_with fail
  refine (writeN (x := m) (r1 := q1) (r2 := q2) rfl hC2 hc2 (FE.out _ G7.out) HW5.out).mono ?_
  rintro e w8 ⟨rfl, hbz⟩
  have G8 := Aside0.mk (below_tr G7.out hbz)
  clear hbz G7
  clear hC2 hc2
  have b0 : w8.cell? ⟨X, 0, none⟩ = some (Value.slice (some ⟨g, 0, none⟩) l.length ci) := (blk_cell (FB.out _ G8.out) 0).trans rfl
  go_wp2_with fail
  clear b0
  refine (writeN (x := l) (r1 := o1) (r2 := o2) rfl (FI.out _ G8.out) hco (FE.out _ G8.out) HW1.out).mono ?_
  rintro e w9 ⟨rfl, hbz⟩
  have G9 := Aside0.mk (below_tr G8.out hbz)
  clear hbz G8
  have b0 : w9.cell? ⟨X, 0, none⟩ = some (Value.slice (some ⟨g, 0, none⟩) l.length ci) := (blk_cell (FB.out _ G9.out) 0).trans rfl
  have b1 : w9.cell? ⟨X, 1, none⟩ = some (Value.slice (some ⟨g, 0, none⟩) (l.length + 64) ci) := (blk_cell (FB.out _ G9.out) 1).trans rfl
  have b2 : w9.cell? ⟨X, 2, none⟩ = some (Value.slice Ar l.length cr) := (blk_cell (FB.out _ G9.out) 2).trans rfl
  go_wp2_with fail
  clear b0 b1 b2
  have HPW := Aside0.mk (FP.out _ G9.out)
  have hrl : rs.length = l.length := by rw [HPW.out.rows.len, RsL_len]
  have HRL := Aside0.mk hrl
  have HOC := overSteps_calls k (.slice (some ⟨g, 0, none⟩) l.length ci) (some ⟨g, 0, none⟩) (l.length + 64) ci (.slice Ar l.length cr) rs cs (RsL l) w w9 rfl (below_tr H03.out G9.out) HPW.out.own (by rw [hrl]; exact HPW.out.own2) HPW.out.rows (by omega) (by omega) HOV.out
  refine HOC.mono ?_
  rintro e w10 ⟨⟨ve, rfl⟩, hP1, hRo⟩
  have hbo : Below w.heap.size w w10 := HPW.out.belowR hRo w (Nat.le_refl _) (below_tr H03.out G9.out)
  have GB := Aside0.mk hbo
  have hb8 := FB.out w9 G9.out
  have hbo8 : w10.heap[X]? = some (.cells #[.slice (some ⟨g, 0, none⟩) l.length ci, .slice (some ⟨g, 0, none⟩) (l.length + 64) ci, .slice Ar l.length cr] 25 (0, 0)) := (hRo.same X (blk_lt hb8) (fun v hv he => by
    rcases List.mem_append.1 hv with hv | hv
    · obtain ⟨j, hj⟩ := List.mem_iff_getElem?.1 hv
      have hjl : j < (RsL l).length := by rw [← HPW.out.rows.len]; exact (List.getElem?_eq_some_iff.1 hj).1
      obtain ⟨c3, h3⟩ := Kd.R_typed (HPW.out.rows.own j v _ hj (List.getElem?_eq_getElem hjl)) X he
      exact blk_ne hb8 h3 (by decide) rfl
    · rw [List.mem_singleton] at hv
      subst hv
      obtain ⟨c3, h3⟩ := own_typed HPW.out.own X he
      exact blk_ne hb8 h3 (by decide) rfl)).trans hb8
  have HCO := Aside0.mk (over_reads hP1 (show l.length ≤ l.length + 64 by omega))
  have FO := Aside0.mk (fun (W : World) (h : Below w10.heap.size w10 W) => Kd.C_below HCO.out h)
  have FX := Aside0.mk (fun (W : World) (h : Below w10.heap.size w10 W) => blk_below hbo8 h)
  have FEb := Aside0.mk (fun (W : World) (h : Below w10.heap.size w10 W) => HE.out.below (below_tr GB.out h))
  have G10 := Aside0.mk (Below.refl w10.heap.size w10)
  have HOL := Aside0.mk (overS_len l.length)
  clear hP1 hRo hbo hb8 hbo8 HPW hrl HRL HOC FB FI FIA FL FM FR FE FP HK HOV G9
  have b0 : w10.cell? ⟨X, 0, none⟩ = some (Value.slice (some ⟨g, 0, none⟩) l.length ci) := (blk_cell (FX.out _ G10.out) 0).trans rfl
  go_wp2_with fail
  clear b0
  refine (writeN (x := overS l.length) (r1 := p1) (r2 := p2) HOL.out (FO.out _ G10.out) hco (FEb.out _ G10.out) HW3.out).mono ?_
  rintro e w11 ⟨rfl, hbz⟩
  have G11 := Aside0.mk (below_tr G10.out hbz)
  clear hbz G10
  have b0 : w11.cell? ⟨X, 0, none⟩ = some (Value.slice (some ⟨g, 0, none⟩) l.length ci) := (blk_cell (FX.out _ G11.out) 0).trans rfl
  go_wp2_with fail
  clear b0
  refine (refwriteN (x := overS l.length) (k := k) (r1 := p1) (r2 := p2) HOL.out (FO.out _ G11.out) hco (FEb.out _ G11.out) HW4.out).mono ?_
  rintro e w12 ⟨rfl, hbz⟩
  have G12 := Aside0.mk (below_tr G11.out hbz)
  clear hbz G11
  go_wp2_with fail
  clear FX FO HCO HOL
  have Gwa := Aside0.mk G12.out
  refine (drat_Read.calls s a e1 n1 _ (FEb.out _ G12.out) HR1.out).mono ?_
  rintro e w13 ⟨va, rfl, hSa, hbz⟩
  obtain ⟨Xa, hOa⟩ := S_open47 hSa
  obtain ⟨Aa, ca, rfl⟩ := Kd.S_slice hSa
  have HSa := Aside0.mk hSa
  have HOa := Aside0.mk hOa
  have HBa := Aside0.mk hbz
  have G13 := Aside0.mk (below_tr G12.out hbz)
  clear hSa hbz hOa
  go_wp2_with fail
  refine (drat_Read.calls s a e1 n1 _ (FEb.out _ G13.out) HR1.out).mono ?_
  rintro e w14 ⟨vb, rfl, hSb, hbz⟩
  obtain ⟨Xb, hOb⟩ := S_open47 hSb
  obtain ⟨Ab, cb, rfl⟩ := Kd.S_slice hSb
  have HSb := Aside0.mk hSb
  have HOb := Aside0.mk hOb
  have HBb := Aside0.mk hbz
  have G14 := Aside0.mk (below_tr G13.out hbz)
  clear hSb hbz hOb
  go_wp2_with fail
  refine (drat_Read.calls t b e2 n2 _ (FEb.out _ G14.out) HR3.out).mono ?_
  rintro e w15 ⟨vc, rfl, hSc, hbz⟩
  obtain ⟨Xc, hOc⟩ := S_open47 hSc
  obtain ⟨Ac, cc, rfl⟩ := Kd.S_slice hSc
  have HSc := Aside0.mk hSc
  have HOc := Aside0.mk hOc
  have HBc := Aside0.mk hbz
  have G15 := Aside0.mk (below_tr G14.out hbz)
  clear hSc hbz hOc
  go_wp2_with fail
  refine (steps_calls s _).mono ?_
  rintro e w16 ⟨rfl, hz⟩
  have hgq : w16.heap[w15.heap.size]? = some (.cells #[.string s] 9 (0, 0)) := by rw [hz]; exact heap_alloc_new _ _
  have hbz : Below w15.heap.size w15 w16 := by rw [hz]; exact alloc_below _ _
  have G16 := Aside0.mk (below_tr G15.out hbz)
  have HBq := Aside0.mk hbz
  have HGQ := Aside0.mk (fun (W : World) (h : Below w16.heap.size w16 W) => blk_below hgq h)
  obtain ⟨gq, hgqe⟩ : ∃ gq, w15.heap.size = gq := ⟨_, rfl⟩
  rw [hgqe] at HGQ ⊢
  clear hz hgq hbz hgqe
  have hqf := fun w => eql_func (.func 28) #[] #[.pointer (some ⟨gq, 0, none⟩)] w
  go_wp2_with fail
  clear hqf
  refine (depotref09_Steps.calls k s st _ (FEb.out _ G16.out) HST.out).mono ?_
  rintro e w17 ⟨vt, rfl, hSt, hbz⟩
  obtain ⟨At, ct, rfl⟩ := Kd.S_slice hSt
  have HBt := Aside0.mk hbz
  have G17 := Aside0.mk (below_tr G16.out hbz)
  clear hSt hbz
  go_wp2_with fail
  refine (HH.out gq _ (FEb.out _ G17.out) (HGQ.out _ HBt.out)).mono ?_
  rintro e w18 ⟨Af, cf, Xf, rfl, hOf, hbz⟩
  have HOf := Aside0.mk hOf
  have HBf := Aside0.mk hbz
  have G18 := Aside0.mk (below_tr G17.out hbz)
  clear hOf hbz
  go_wp2_with fail
  refine (HH.out gq _ (FEb.out _ G18.out) (HGQ.out _ (below_tr HBt.out HBf.out))).mono ?_
  rintro e w19 ⟨Ag, cg, Xg, rfl, hOg, hbz⟩
  have HOg := Aside0.mk hOg
  have HBg := Aside0.mk hbz
  have G19 := Aside0.mk (below_tr G18.out hbz)
  clear hOg hbz
  go_wp2_with fail
  refine (depotref09_Read.calls k s a e1 n1 _ (FEb.out _ G19.out) HR2.out).mono ?_
  rintro e w20 ⟨vw, rfl, hSw, hbz⟩
  obtain ⟨Aw, cw, rfl⟩ := Kd.S_slice hSw
  have HSw := Aside0.mk (Kd.S_bound hSw)
  have HBw := Aside0.mk hbz
  have G20 := Aside0.mk (below_tr G19.out hbz)
  clear hSw hbz 
  go_wp2_with fail
  refine (depotref09_Read.calls k t b e2 n2 _ (FEb.out _ G20.out) HR4.out).mono ?_
  rintro e w21 ⟨vv, rfl, hSv, hbz⟩
  obtain ⟨Av, cv, rfl⟩ := Kd.S_slice hSv
  have HSv := Aside0.mk (Kd.S_bound hSv)
  have HBv := Aside0.mk hbz
  have G21 := Aside0.mk (below_tr G20.out hbz)
  clear hSv hbz 
  go_wp2_with fail
  clear HH HGQ HR2 HR3 HR4 HST
  have Dw := Aside0.mk HBv.out
  have Dg := Aside0.mk (below_tr HBw.out Dw.out)
  have Df := Aside0.mk (below_tr HBg.out Dg.out)
  have Dt := Aside0.mk (below_tr HBf.out Df.out)
  have Dq := Aside0.mk (below_tr HBt.out Dt.out)
  have Dc := Aside0.mk (below_tr HBq.out Dq.out)
  have Db := Aside0.mk (below_tr HBc.out Dc.out)
  have Da := Aside0.mk (below_tr HBb.out Db.out)
  have Ca := Aside0.mk (fun (W : World) (h : Below w21.heap.size w21 W) => S_read HSa.out (below_tr Da.out h))
  have Cb := Aside0.mk (fun (W : World) (h : Below w21.heap.size w21 W) => S_read HSb.out (below_tr Db.out h))
  have Cc := Aside0.mk (fun (W : World) (h : Below w21.heap.size w21 W) => S_read HSc.out (below_tr Dc.out h))
  have Cf := Aside0.mk (fun (W : World) (h : Below w21.heap.size w21 W) => ((HOf.out.below Df.out).below h).reads)
  have Cg := Aside0.mk (fun (W : World) (h : Below w21.heap.size w21 W) => ((HOg.out.below Dg.out).below h).reads)
  have Cw := Aside0.mk (fun (W : World) (h : Below w21.heap.size w21 W) => S_read HSw.out (below_tr Dw.out h))
  have Cv := Aside0.mk (fun (W : World) (h : Below w21.heap.size w21 W) => S_read HSv.out h)
  have Y0 := Aside0.mk (Below.refl w21.heap.size w21)
  have p0 := Ca.out _ Y0.out
  have q0 := Cw.out _ Y0.out
  have H0 := Aside0.mk (depotref00_SameSteps.calls k Aa ca a Aw cw a true _ p0.1 p0.2 q0.1 q0.2 HSA.out)
  clear p0 q0
  refine H0.out.mono ?_
  rintro e y1 ⟨rfl, hdy⟩
  have Y1 := Aside0.mk (below_tr Y0.out hdy.below)
  clear hdy H0 Y0
  have p0 := Cb.out _ Y1.out
  have q0 := Cw.out _ Y1.out
  have H1 := Aside0.mk (depotref00_SameSteps.calls k Ab cb a Aw cw a true _ p0.1 p0.2 q0.1 q0.2 HSA.out)
  clear p0 q0
  go_wp2_with fail
  refine H1.out.mono ?_
  rintro e y2 ⟨rfl, hdy⟩
  have Y2 := Aside0.mk (below_tr Y1.out hdy.below)
  clear hdy H1 Y1
  have p0 := Cc.out _ Y2.out
  have q0 := Cv.out _ Y2.out
  have H2 := Aside0.mk (depotref00_SameSteps.calls k Ac cc b Av cv b true _ p0.1 p0.2 q0.1 q0.2 HSB.out)
  clear p0 q0
  go_wp2_with fail
  refine H2.out.mono ?_
  rintro e y3 ⟨rfl, hdy⟩
  have Y3 := Aside0.mk (below_tr Y2.out hdy.below)
  clear hdy H2 Y2
  have p0 := Cf.out _ Y3.out
  have q0 := Cg.out _ Y3.out
  have H3 := Aside0.mk (depotref00_SameSteps.calls k Af cf st Ag cg st true _ p0.1 p0.2 q0.1 q0.2 HSS.out)
  clear p0 q0
  go_wp2_with fail
  refine H3.out.mono ?_
  rintro e y4 ⟨rfl, hdy⟩
  have Y4 := Aside0.mk (below_tr Y3.out hdy.below)
  clear hdy H3 Y3
  go_wp2_with fail
  have hW1 : Below w21.heap.size w21 (y4.alloc (.cells #[.slice Aa a.length ca, .slice Ab a.length cb, .slice Ac b.length cc, .slice Af st.length cf, .slice Ag st.length cg] 22)) := below_tr Y4.out (alloc_below _ _)
  have hV : (y4.alloc (.cells #[.slice Aa a.length ca, .slice Ab a.length cb, .slice Ac b.length cc, .slice Af st.length cf, .slice Ag st.length cg] 22)).ownsRow 0 22 1 (.slice (some ⟨y4.heap.size, 0, none⟩) 5 5) 5 [.slice Aa a.length ca, .slice Ab a.length cb, .slice Ac b.length cc, .slice Af st.length cf, .slice Ag st.length cg] := own_mk (heap_alloc_new y4 _) (Nat.zero_le _) (Nat.le_refl _) (by decide) rfl rfl rfl
  generalize y4.alloc (.cells #[.slice Aa a.length ca, .slice Ab a.length cb, .slice Ac b.length cc, .slice Af st.length cf, .slice Ag st.length cg] 22) = W1 at hW1 hV ⊢
  have z0 := HBa.out.size
  have z1 := HBb.out.size
  have z2 := HBc.out.size
  have z3 := HBq.out.size
  have z4 := HBt.out.size
  have z5 := HBf.out.size
  have z6 := HBg.out.size
  have hbd := HB.out
  have L0 := Lists.nil W1 w12.heap.size 1048577 (fiveX Xa Xb Xc Xf Xg)
  have L1 := L0.snoc (X' := fiveX Xa Xb Xc Xf Xg) ((HOa.out.below Da.out).below hW1) (fun _ _ => rfl) rfl (by omega) (by omega) (by omega) hbd.1.2 (fun x hx => by have := hbd.1.1 x hx; omega)
  have L2 := L1.snoc (X' := fiveX Xa Xb Xc Xf Xg) ((HOb.out.below Db.out).below hW1) (fun _ _ => rfl) rfl (by omega) (by omega) (by omega) hbd.1.2 (fun x hx => by have := hbd.1.1 x hx; omega)
  have L3 := L2.snoc (X' := fiveX Xa Xb Xc Xf Xg) ((HOc.out.below Dc.out).below hW1) (fun _ _ => rfl) rfl (by omega) (by omega) (by omega) hbd.2.1.2 (fun x hx => by have := hbd.2.1.1 x hx; omega)
  have L4 := L3.snoc (X' := fiveX Xa Xb Xc Xf Xg) ((HOf.out.below Df.out).below hW1) (fun _ _ => rfl) rfl (by omega) (by omega) (by omega) hbd.2.2.2 (fun x hx => by have := hbd.2.2.1 x hx; omega)
  have L5 := L4.snoc (X' := fiveX Xa Xb Xc Xf Xg) ((HOg.out.below Dg.out).below hW1) (fun _ _ => rfl) rfl (by omega) (by omega) (by omega) hbd.2.2.2 (fun x hx => by have := hbd.2.2.1 x hx; omega)
  have HLC := L5.calls _ hV (by simp) (by decide)
  refine HLC.mono ?_
  rintro e w' ⟨rfl, hR, hG⟩
  have hB0 : Below w.heap.size w W1 := below_tr GB.out (below_tr G21.out hW1)
  have hsz : w.heap.size ≤ w12.heap.size := Nat.le_trans GB.out.size Gwa.out.size
  have hB' : Below w.heap.size w w' := ⟨hR.os.trans hB0.os, hR.tape.trans hB0.tape, hR.output.trans hB0.output, Nat.le_trans hB0.size hR.size, fun b hb => (hR.same b (Nat.lt_of_lt_of_le hb hB0.size) fun v hv e => by
    have := (hG v hv b e).1
    omega).trans (hB0.block b hb)⟩
  have hBw1 : Below w20.heap.size w20 W1 := below_tr Dw.out hW1
  have hS' := Kd.S_step (w1 := w') HSw.out fun k hk hlt => by
    obtain ⟨_, h1, h2, _⟩ := hk
    exact (hR.same k (Nat.lt_of_lt_of_le h2 hBw1.size) fun v hv e => by
      have := (hG v hv k e).2
      omega).trans (hBw1.block k h2)
  have HE' := Aside0.mk (HE.out.below hB')
  have HB' := Aside0.mk hB'
  have HS' := Aside0.mk hS'
  clear hW1 hV L0 L1 L2 L3 L4 L5 HLC hR hG hB0 hB' hBw1 hS' hsz z0 z1 z2 z3 z4 z5 z6 hbd
  go_wp2_with fail
  refine (drat_Read.calls s a e1 n1 w' HE'.out HR1.out).mono ?_
  rintro e wz ⟨vz, rfl, hSz, hBz⟩
  obtain ⟨Az, cz, rfl⟩ := Kd.S_slice hSz
  have hz := S_read hSz (Below.refl _ _)
  have he := S_read HS'.out hBz
  have HZ := Aside0.mk (depotref00_SameSteps.calls k Az cz a Aw cw a true wz hz.1 hz.2 he.1 he.2 HSA.out)
  have HBz := Aside0.mk hBz
  clear hSz hz he hBz
  go_wp2_with fail
  refine HZ.out.mono ?_
  rintro e wy ⟨rfl, hdy⟩
  have HY := Aside0.mk (below_tr HB'.out (below_tr HBz.out hdy.below))
  clear hdy HZ
  go_wp2
  go_ret
  exact ⟨by simp, HY.out⟩
end Go.Proofs.YtnaafhkenbnliaaDoor.KP
