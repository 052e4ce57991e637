/- The pure law of Get: the program's and the reference's Get tell the same of every stanza and name. No conditions. control.name: what it comes to. No conditions. -/
import Derived.Test.YtbaiglikmneicaaDoorPx2
import Derived.Test.YtbaiglikmneicaaDoorPx3
import Derived.Test.YtbaiglikmneicaaDoorESmall
import Derived.Test.YtbaiglikmneicaaDoorBase
import Derived.Test.YtbaiglikmneicaaDoorELibC
section
set_option linter.unusedVariables false
set_option linter.unusedSimpArgs false
namespace Go.Proofs.YtbaiglikmneicaaDoor.P
open Go.RowKit Go.Proofs.YtbaiglikmneicaaDoorW.PrintWords Go.Proofs.YtbaiglikmneicaaDoorW.PrintLast Go.Proofs.YtbaiglikmneicaaDoorW.PrintMore

/-- The bytes of a name, its capital letters made small. -/
def lowL (s : ByteArray) : List Int := (bytesOf s).map lowI
theorem lowL_length (s : ByteArray) : (lowL s).length = s.size := by unfold lowL; rw [List.length_map, bytesOf_length]
theorem small_is (s : ByteArray) (hs : s.size ≤ 9223372036854775807) : control_small.f s = some (strOfNums (lowL s)) := by
  unfold control_small.f
  rw [if_pos hs]
  rfl
theorem lowI_range {x : Int} (h0 : 0 ≤ x) (h1 : x ≤ 255) : 0 ≤ lowI x ∧ lowI x ≤ 255 := by
  unfold lowI; split <;> omega
theorem lowL_range (s : ByteArray) : ∀ x ∈ lowL s, 0 ≤ x ∧ x ≤ 255 := by
  intro x hx
  obtain ⟨y, hy, rfl⟩ := List.mem_map.1 hx
  obtain ⟨h0, h1⟩ := bytesOf_range s y hy
  exact lowI_range h0 h1
theorem str_inj : ∀ {xs ys : List Int}, (∀ x ∈ xs, 0 ≤ x ∧ x ≤ 255) → (∀ x ∈ ys, 0 ≤ x ∧ x ≤ 255) → xs.map (fun n => UInt8.ofNat n.toNat) = ys.map (fun n => UInt8.ofNat n.toNat) → xs = ys
  | [], [], _, _, _ => rfl
  | [], _ :: _, _, _, h => by simp at h
  | _ :: _, [], _, _, h => by simp at h
  | x :: xs, y :: ys, hx, hy, h => by
    simp only [List.map_cons, List.cons.injEq] at h
    have h1 := hx x List.mem_cons_self
    have h2 := hy y List.mem_cons_self
    have e : x = y := by
      have := congrArg UInt8.toNat h.1
      rw [UInt8.toNat_ofNat', UInt8.toNat_ofNat', Nat.mod_eq_of_lt (by omega), Nat.mod_eq_of_lt (by omega)] at this
      omega
    rw [e, str_inj (fun z hz => hx z (List.mem_cons_of_mem _ hz)) (fun z hz => hy z (List.mem_cons_of_mem _ hz)) h.2]
theorem str_eq (a b : ByteArray) : (strOfNums (lowL a)).toList = (strOfNums (lowL b)).toList ↔ lowL a = lowL b := by
  constructor
  · intro h
    rw [ByteArray.toList_eq, ByteArray.toList_eq, strOfNums_data, strOfNums_data] at h
    exact str_inj (lowL_range a) (lowL_range b) h
  · intro h; rw [h]

/-- One byte of each, made small and compared. -/
theorem alike_step (x y : ByteArray) (i : Nat) (hx : i < x.size) (hy : i < y.size) (k : Nat) :
    depotref21_Alike.l0 (k + 1 + 1 + 1 + 1) x y (i : Int) = if lowI (bt x i) = lowI (bt y i) then depotref21_Alike.l0 k x y (wrap64 ((i : Int) + 1)) else some false := by
  obtain ⟨a0, a1⟩ := bt_range x i
  obtain ⟨b0, b1⟩ := bt_range y i
  have j3 : ∀ c : Int, depotref21_Alike.j3 (k + 1) x y (i : Int) c (bt y i) (decide (65 ≤ bt y i ∧ bt y i ≤ 90)) = if c = lowI (bt y i) then depotref21_Alike.l0 k x y (wrap64 ((i : Int) + 1)) else some false := by
    intro c
    rw [depotref21_Alike.j3]
    by_cases h : 65 ≤ bt y i ∧ bt y i ≤ 90
    · rw [if_pos (by simpa using h)]
      have e : (bt y i + 32) % 256 = lowI (bt y i) := by unfold lowI; rw [if_pos h]; omega
      rw [e]
    · rw [if_neg (by simpa using h)]
      have e : bt y i = lowI (bt y i) := by unfold lowI; rw [if_neg h]
      rw [← e]
  have j2 : ∀ c : Int, depotref21_Alike.j2 (k + 1 + 1) x y (i : Int) c (bt y i) = if c = lowI (bt y i) then depotref21_Alike.l0 k x y (wrap64 ((i : Int) + 1)) else some false := by
    intro c
    rw [depotref21_Alike.j2, ← j3 c]
    by_cases h : bt y i ≥ 65
    · rw [if_pos h]
      congr 1
      rw [decide_eq_decide]; omega
    · rw [if_neg h]
      congr 1
      symm
      rw [decide_eq_false_iff_not]; omega
  have j1 : depotref21_Alike.j1 (k + 1 + 1 + 1) x y (i : Int) (bt x i) (bt y i) (decide (65 ≤ bt x i ∧ bt x i ≤ 90)) = if lowI (bt x i) = lowI (bt y i) then depotref21_Alike.l0 k x y (wrap64 ((i : Int) + 1)) else some false := by
    rw [depotref21_Alike.j1]
    by_cases h : 65 ≤ bt x i ∧ bt x i ≤ 90
    · rw [if_pos (by simpa using h), j2]
      have e : (bt x i + 32) % 256 = lowI (bt x i) := by unfold lowI; rw [if_pos h]; omega
      rw [e]
    · rw [if_neg (by simpa using h), j2]
      have e : bt x i = lowI (bt x i) := by unfold lowI; rw [if_neg h]
      rw [← e]
  rw [depotref21_Alike.l0, if_pos (by omega), if_pos (by omega), if_pos (by omega), ← j1]
  by_cases h : bt x i ≥ 65
  · rw [if_pos h]
    congr 1
    rw [decide_eq_decide]; omega
  · rw [if_neg h]
    congr 1
    symm
    rw [decide_eq_false_iff_not]; omega

theorem lowL_get (s : ByteArray) (i : Nat) (h : i < s.size) : (lowL s)[i]'(by rw [lowL_length]; exact h) = lowI (bt s i) := by
  have hb : i < (bytesOf s).length := by rw [bytesOf_length]; exact h
  unfold lowL
  rw [List.getElem_map, ← rd_bytesOf, rd_nat hb]

theorem alike_l0 (x y : ByteArray) (hs : x.size = y.size) (hm : x.size ≤ 9223372036854775806) (d : Nat) : ∀ (k i : Nat), i ≤ x.size → x.size - i = d → 4 * d < k → depotref21_Alike.l0 k x y (i : Int) = some (decide ((lowL x).drop i = (lowL y).drop i)) := by
  induction d with
  | zero =>
    intro k i h0 hd hk
    obtain ⟨k, rfl⟩ := succ_of hk
    rw [depotref21_Alike.l0, if_neg (by omega), List.drop_of_length_le (by rw [lowL_length]; omega), List.drop_of_length_le (by rw [lowL_length]; omega)]
    simp
  | succ d ih =>
    intro k i h0 hd hk
    obtain ⟨k, rfl⟩ : ∃ m, k = m + 1 + 1 + 1 + 1 := ⟨k - 4, by omega⟩
    rw [alike_step x y i (by omega) (by omega), List.drop_eq_getElem_cons (by rw [lowL_length]; omega), List.drop_eq_getElem_cons (l := lowL y) (by rw [lowL_length]; omega), lowL_get x i (by omega), lowL_get y i (by omega), w64 (by omega) (by omega)]
    have := ih k (i + 1) (by omega) (by omega) (by omega)
    by_cases h : lowI (bt x i) = lowI (bt y i)
    · rw [if_pos h, h]
      simpa using this
    · rw [if_neg h]
      simp [h]

theorem alike_is (x y : ByteArray) (hm : x.size ≤ 9223372036854775806) (k : Nat) (hk : 4 * x.size < k) : depotref21_Alike.f k x y = some (decide (lowL x = lowL y)) := by
  unfold depotref21_Alike.f
  by_cases hs : x.size = y.size
  · rw [if_pos (by omega)]
    have := alike_l0 x y hs hm x.size k 0 (by omega) (by omega) hk
    simpa using this
  · rw [if_neg (by omega)]
    congr 1
    symm
    rw [decide_eq_false_iff_not]
    intro h
    have := congrArg List.length h
    rw [lowL_length, lowL_length] at this
    exact hs this

theorem rdF_nat {xs : List S50} {n : Nat} (h : n < xs.length) : rd_T50 xs (n : Int) = xs[n] := by
  unfold rd_T50
  rw [Int.toNat_natCast, List.getD_eq_getElem?_getD, List.getElem?_eq_getElem h]
  rfl

/-- What Get comes to. -/
def getR (fs : List S50) (name : ByteArray) : ByteArray × Bool :=
  match fs with
  | [] => (⟨#[]⟩, false)
  | f :: r => if lowL f.f0 = lowL name then (f.f1, true) else getR r name
def hasF (fs : List S50) (name : ByteArray) : Bool := (getR fs name).2
theorem get_l0 (fs : List S50) (name : ByteArray) (M : Nat) (hM : M ≤ 9223372036854775806) (hn : name.size ≤ M) (hf : ∀ f ∈ fs, f.f0.size ≤ M) (hl : fs.length ≤ 9223372036854775806) (d : Nat) : ∀ (i k : Nat), i ≤ fs.length → fs.length - i = d → d < k → control_Get.l0 k name fs (fs.length : Int) (i : Int) = some (getR (fs.drop i) name) := by
  induction d with
  | zero =>
    intro i k h0 hd hk
    obtain ⟨k, rfl⟩ := succ_of hk
    rw [control_Get.l0, if_neg (by omega), List.drop_of_length_le (by omega)]
    rfl
  | succ d ih =>
    intro i k h0 hd hk
    have hlt : i < fs.length := by omega
    have hfi := hf fs[i] (List.getElem_mem hlt)
    obtain ⟨k, rfl⟩ := succ_of hk
    rw [control_Get.l0, if_pos (by omega), if_pos (by omega), if_pos (by omega), rdF_nat hlt, small_is _ (by omega), small_is _ (by omega), List.drop_eq_getElem_cons hlt, getR]
    simp only [Option.bind_some]
    by_cases h : lowL fs[i].f0 = lowL name
    · rw [if_pos ((str_eq _ _).2 h), if_pos h]
    · rw [if_neg (fun e => h ((str_eq _ _).1 e)), if_neg h, w64 (by omega) (by omega)]
      exact ih (i + 1) k (by omega) (by omega) (by omega)
theorem get_is (line : Int) (fs : List S50) (name : ByteArray) (M : Nat) (hM : M ≤ 9223372036854775806) (hn : name.size ≤ M) (hf : ∀ f ∈ fs, f.f0.size ≤ M) (hl : fs.length ≤ 9223372036854775806) (k : Nat) (hk : fs.length < k) : control_Get.f k line fs name = some (getR fs name) := by
  unfold control_Get.f
  have := get_l0 fs name M hM hn hf hl fs.length 0 k (by omega) (by omega) hk
  simpa using this
theorem has_is (line : Int) (fs : List S50) (name : ByteArray) (M : Nat) (hM : M ≤ 9223372036854775806) (hn : name.size ≤ M) (hf : ∀ f ∈ fs, f.f0.size ≤ M) (hl : fs.length ≤ 9223372036854775806) (k : Nat) (hk : fs.length < k) : control_has.f k line fs name = some (hasF fs name) := by
  unfold control_has.f
  rw [get_is line fs name M hM hn hf hl k hk]
  rfl

/-- Both loops over the fields tell the same. -/
theorem get_both (line : Int) (fs : List S50) (name : ByteArray) (M : Nat) (hM : M ≤ 9223372036854775806) (hn : name.size ≤ M) (hf : ∀ f ∈ fs, f.f0.size ≤ M) (hl : fs.length ≤ 9223372036854775806) (d : Nat) : ∀ i : Nat, i ≤ fs.length → fs.length - i = d →
    ∃ r, (∀ k, d < k → control_Get.l0 k name fs (fs.length : Int) (i : Int) = some r) ∧ (∀ k, d + 4 * M < k → depotref21_Get.l0 k name (i : Int) line fs = some r) := by
  induction d with
  | zero =>
    intro i h0 hd
    refine ⟨(⟨#[]⟩, false), fun k hk => ?_, fun k hk => ?_⟩
    · obtain ⟨k, rfl⟩ := succ_of hk
      rw [control_Get.l0, if_neg (by omega)]
    · obtain ⟨k, rfl⟩ := succ_of hk
      rw [depotref21_Get.l0, if_neg (by omega)]
  | succ d ih =>
    intro i h0 hd
    have hlt : i < fs.length := by omega
    have hfi := hf fs[i] (List.getElem_mem hlt)
    obtain ⟨r, h1, h2⟩ := ih (i + 1) (by omega) (by omega)
    by_cases h : lowL fs[i].f0 = lowL name
    · refine ⟨(fs[i].f1, true), fun k hk => ?_, fun k hk => ?_⟩
      · obtain ⟨k, rfl⟩ := succ_of hk
        rw [control_Get.l0, if_pos (by omega), if_pos (by omega), if_pos (by omega), rdF_nat hlt, small_is _ (by omega), small_is _ (by omega)]
        simp only [Option.bind_some]
        rw [if_pos ((str_eq _ _).2 h)]
      · obtain ⟨k, rfl⟩ := succ_of hk
        rw [depotref21_Get.l0, if_pos (by omega), if_pos (by omega), rdF_nat hlt, alike_is _ _ (by omega) _ (by omega)]
        simp only [Option.bind_some]
        rw [if_pos (by simpa using h)]
    · refine ⟨r, fun k hk => ?_, fun k hk => ?_⟩
      · obtain ⟨k, rfl⟩ := succ_of hk
        rw [control_Get.l0, if_pos (by omega), if_pos (by omega), if_pos (by omega), rdF_nat hlt, small_is _ (by omega), small_is _ (by omega)]
        simp only [Option.bind_some]
        rw [if_neg (fun e => h ((str_eq _ _).1 e)), w64 (by omega) (by omega)]
        exact h1 k (by omega)
      · obtain ⟨k, rfl⟩ := succ_of hk
        rw [depotref21_Get.l0, if_pos (by omega), if_pos (by omega), rdF_nat hlt, alike_is _ _ (by omega) _ (by omega)]
        simp only [Option.bind_some]
        rw [if_neg (by simpa using h), w64 (by omega) (by omega)]
        exact h2 k (by omega)

theorem get_same (line : Int) (fs : List S50) (name : ByteArray) (M : Nat) (hM : M ≤ 9223372036854775806) (hn : name.size ≤ M) (hf : ∀ f ∈ fs, f.f0.size ≤ M) (hl : fs.length ≤ 9223372036854775806) :
    ∃ r, (∀ k, fs.length < k → control_Get.f k line fs name = some r) ∧ (∀ k, fs.length + 4 * M < k → depotref21_Get.f k line fs name = some r) := by
  obtain ⟨r, h1, h2⟩ := get_both line fs name M hM hn hf hl fs.length 0 (by omega) (by omega)
  exact ⟨r, h1, h2⟩

end Go.Proofs.YtbaiglikmneicaaDoor.P
end
section
set_option linter.unusedVariables false
set_option linter.unusedSimpArgs false
namespace Go.Proofs.YtbaiglikmneicaaDoor.P
open Go.RowKit Go.Lib Go.Proofs.YtbaiglikmneicaaDoorW.PrintWords Go.Proofs.YtbaiglikmneicaaDoorW.PrintLast Go.Proofs.YtbaiglikmneicaaDoorW.PrintMore
open Go.Proofs.YtbaiglikmneicaaDoor.R (mkB mkB_size)

/-- A byte of a field's name. -/
def nameB (c : UInt8) : Bool := decide (33 ≤ c.toNat) && decide (c.toNat ≤ 126) && c != 58
/-- A field's name. -/
def nameL : List UInt8 → Bool
  | [] => false
  | b :: l => b != 35 && b != 45 && (b :: l).all nameB
theorem bt_mkB (l : List UInt8) (i : Nat) (h : i < l.length) : bt (mkB l) (i : Int) = ((l[i]).toNat : Int) := by
  have h1 := rd_bytesOf (mkB l) (i : Int)
  have hb : i < (bytesOf (mkB l)).length := by rw [bytesOf_length, mkB_size]; exact h
  rw [← h1, rd_nat hb]
  unfold bytesOf mkB
  exact List.getElem_map _
theorem eq_nat (c : UInt8) (n : UInt8) : (c.toNat : Int) = (n.toNat : Int) ↔ c = n := by
  constructor
  · intro h; exact UInt8.toNat_inj.1 (by omega)
  · intro h; rw [h]
theorem name_l0 (l : List UInt8) (hl : l.length ≤ 4398046511104) (d : Nat) : ∀ (i k : Nat), i ≤ l.length → l.length - i = d → d < k → control_name.l0 k (mkB l) (i : Int) = some ((l.drop i).all nameB) := by
  induction d with
  | zero =>
    intro i k h0 hd hk
    obtain ⟨k, rfl⟩ := succ_of hk
    rw [control_name.l0, if_neg (by rw [mkB_size]; omega), List.drop_of_length_le (by omega)]
    rfl
  | succ d ih =>
    intro i k h0 hd hk
    obtain ⟨k, rfl⟩ := succ_of hk
    have hlt : i < l.length := by omega
    have n58 := eq_nat l[i] 58
    rw [show ((58 : UInt8).toNat : Int) = 58 from rfl] at n58
    rw [control_name.l0, if_pos (by rw [mkB_size]; omega), if_pos (by omega), bt_mkB l i hlt, List.drop_eq_getElem_cons hlt, List.all_cons]
    by_cases h1 : ((l[i]).toNat : Int) < 33
    · rw [if_pos h1]
      have : nameB l[i] = false := by unfold nameB; rw [decide_eq_false (by omega)]; rfl
      rw [this]; rfl
    · rw [if_neg h1]
      by_cases h2 : ((l[i]).toNat : Int) > 126
      · rw [if_pos h2]
        have : nameB l[i] = false := by unfold nameB; rw [decide_eq_false (p := (l[i]).toNat ≤ 126) (by omega)]; simp
        rw [this]; rfl
      · rw [if_neg h2]
        by_cases h3 : ((l[i]).toNat : Int) = 58
        · rw [if_pos h3]
          have : nameB l[i] = false := by unfold nameB; rw [n58.1 h3]; rfl
          rw [this]; rfl
        · rw [if_neg h3]
          have : nameB l[i] = true := by
            unfold nameB
            rw [decide_eq_true (by omega), decide_eq_true (by omega), bne_iff_ne.2 (fun e => h3 (n58.2 e))]
            rfl
          rw [this, Bool.true_and, w64 (by omega) (by omega)]
          exact ih (i + 1) k (by omega) (by omega) (by omega)
theorem name_is (l : List UInt8) (hl : l.length ≤ 4398046511104) (k : Nat) (hk : l.length + 1 < k) : control_name.f k (mkB l) = some (nameL l) := by
  obtain ⟨k, rfl⟩ := succ_of hk
  unfold control_name.f
  cases l with
  | nil =>
    rw [if_pos (by rw [ByteArray.toList_eq]; unfold mkB; simp), control_name.j0, if_pos rfl]
    rfl
  | cons b l =>
    have n35 := eq_nat b 35
    have n45 := eq_nat b 45
    rw [show ((35 : UInt8).toNat : Int) = 35 from rfl] at n35
    rw [show ((45 : UInt8).toNat : Int) = 45 from rfl] at n45
    have hb : bt (mkB (b :: l)) 0 = (b.toNat : Int) := bt_mkB (b :: l) 0 (by simp)
    have hall := name_l0 (b :: l) hl (b :: l).length 0 k (by omega) (by omega) (by simpa using hk)
    simp only [Int.ofNat_zero, List.drop_zero] at hall
    rw [if_neg (by rw [ByteArray.toList_eq]; unfold mkB; simp), if_pos (by rw [mkB_size]; simp), hb]
    show _ = some (b != 35 && b != 45 && (b :: l).all nameB)
    by_cases h1 : (b.toNat : Int) = 35
    · rw [if_pos h1, control_name.j0, if_pos rfl, n35.1 h1]; rfl
    · rw [if_neg h1, control_name.j0]
      by_cases h2 : (b.toNat : Int) = 45
      · rw [if_pos (beq_iff_eq.2 h2), n45.1 h2]; rfl
      · rw [if_neg (fun e => h2 (beq_iff_eq.1 e)), bne_iff_ne.2 (fun e => h1 (n35.2 e)), bne_iff_ne.2 (fun e => h2 (n45.2 e)), Bool.true_and, Bool.true_and]
        exact hall
end Go.Proofs.YtbaiglikmneicaaDoor.P
end
