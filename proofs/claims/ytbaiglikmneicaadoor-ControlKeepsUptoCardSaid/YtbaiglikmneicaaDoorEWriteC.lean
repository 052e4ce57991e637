/- control.value and control.Formed: what they come to. No conditions. control.Write: what it comes to: the stanzas' text, or the refusal. No conditions. -/
import Derived.Test.YtbaiglikmneicaaDoorPx6
import Derived.Test.YtbaiglikmneicaaDoorPureGets
import Derived.Test.YtbaiglikmneicaaDoorEFair
import Derived.Test.YtbaiglikmneicaaDoorBuilder
import Derived.Deep.CutBlock
import Derived.Deep.DeepCutAuto
section
set_option linter.unusedVariables false
set_option linter.unusedSimpArgs false
namespace Go.Proofs.YtbaiglikmneicaaDoor.P
open Go.RowKit Go.Lib Go.Proofs.YtbaiglikmneicaaDoorW.PrintWords Go.Proofs.YtbaiglikmneicaaDoorW.PrintLast Go.Proofs.YtbaiglikmneicaaDoorW.PrintMore
open Go.Proofs.YtbaiglikmneicaaDoor.R (mkB mkB_size mkB_data pieces)
open Go.Proofs.YtbaiglikmneicaaDoor.C (fairL)

/-- A piece of a value: no blanks at its ends; only the first one may be empty. -/
def trimmed (p : List UInt8) : Bool := decide (trimC p = p)
def innerP (p : List UInt8) : Bool := trimmed p && decide (p ≠ [])
def piecesOk : List (List UInt8) → Bool
  | [] => true
  | p :: r => trimmed p && r.all innerP
def valueL (l : List UInt8) : Bool := fairL true l && piecesOk (pieces l)
theorem mkB_toList (l : List UInt8) : (mkB l).toList = l := by rw [ByteArray.toList_eq]; rfl
theorem trim_f (l : List UInt8) (h : l.length ≤ 4398046511104) : strings_Trim.f (mkB l) ⟨#[32, 9]⟩ = some (mkB (trimC l)) := by
  unfold strings_Trim.f
  rw [if_pos ⟨by rw [mkB_size]; exact h, rfl⟩]
  rfl
theorem rd_map (P : List (List UInt8)) (i : Nat) (h : i < P.length) : rdOf ByteArray.empty (P.map mkB) (i : Int) = mkB P[i] := by
  rw [rdOf_nat (by rw [List.length_map]; exact h), List.getElem_map]
theorem value_l0 (P : List (List UInt8)) (hl : P.length ≤ 4398046511104) (hp : ∀ p ∈ P, p.length ≤ 4398046511104) (d : Nat) : ∀ (i k : Nat), 1 ≤ i → i ≤ P.length → P.length - i = d → d < k →
    control_value.l0 k (P.map mkB) (P.length : Int) (i : Int) = some ((P.drop i).all innerP) := by
  induction d with
  | zero =>
    intro i k h1 h0 hd hk
    obtain ⟨k, rfl⟩ := succ_of hk
    rw [control_value.l0, if_neg (by omega), List.drop_of_length_le (by omega)]
    rfl
  | succ d ih =>
    intro i k h1 h0 hd hk
    have hlt : i < P.length := by omega
    obtain ⟨k, rfl⟩ := succ_of hk
    rw [control_value.l0, if_pos (by omega), if_pos (by omega), if_pos (by rw [List.length_map]; omega), rd_map P i hlt, trim_f _ (hp _ (List.getElem_mem hlt)), List.drop_eq_getElem_cons hlt, List.all_cons]
    simp only [Option.bind_some]
    rw [mkB_toList, mkB_toList]
    unfold innerP trimmed
    by_cases ht : trimC P[i] = P[i]
    · rw [if_pos ht, decide_eq_true ht]
      by_cases he : P[i] = []
      · rw [if_pos he, if_pos (by omega), decide_eq_false (by simpa using he)]
        rfl
      · rw [if_neg he, decide_eq_true (by simpa using he), w64 (by omega) (by omega)]
        exact ih (i + 1) k (by omega) (by omega) (by omega) (by omega)
    · rw [if_neg ht, decide_eq_false ht]
      rfl
theorem value_loop (P : List (List UInt8)) (hl : P.length ≤ 4398046511104) (hp : ∀ p ∈ P, p.length ≤ 4398046511104) (k : Nat) (hk : P.length < k) : control_value.l0 k (P.map mkB) (P.length : Int) 0 = some (piecesOk P) := by
  obtain ⟨k, rfl⟩ := succ_of hk
  cases P with
  | nil => rw [control_value.l0, if_neg (by simp)]; rfl
  | cons p r =>
    have h0 := rd_map (p :: r) 0 (by simp)
    have hn := value_l0 (p :: r) hl hp r.length 1 k (Nat.le_refl _) (by simp) (by simp) (by simp at hk; omega)
    have h0' : rdOf ByteArray.empty ((p :: r).map mkB) 0 = mkB p := h0
    rw [control_value.l0, if_pos (by simp), if_pos (by omega), if_pos (by simp), h0', trim_f _ (hp _ (by simp))]
    simp only [Option.bind_some]
    rw [mkB_toList, mkB_toList]
    show _ = some (trimmed p && r.all innerP)
    have e : wrap64 (0 + 1) = ((1 : Nat) : Int) := by unfold wrap64; decide
    have hn' : control_value.l0 k ((p :: r).map mkB) ((p :: r).length : Int) ((1 : Nat) : Int) = some (r.all innerP) := hn
    unfold trimmed
    show (if trimC p = p then _ else _) = _
    by_cases ht : trimC p = p
    · rw [if_pos ht, decide_eq_true ht, Bool.true_and]
      by_cases he : p = []
      · rw [if_pos he, if_neg (by omega), e]; exact hn'
      · rw [if_neg he, e]; exact hn'
    · rw [if_neg ht, decide_eq_false ht]; rfl
theorem pieces_len (l : List UInt8) : (pieces l).length ≤ l.length + 1 ∧ ∀ p ∈ pieces l, p.length ≤ l.length := by
  induction l with
  | nil => exact ⟨by simp [pieces], by simp [pieces]⟩
  | cons b l ih =>
    rw [pieces]
    by_cases hb : b = 10
    · rw [if_pos hb]
      refine ⟨by simp; exact ih.1, fun p hp => ?_⟩
      rcases List.mem_cons.1 hp with rfl | hp
      · simp
      · have := ih.2 p hp; simp; omega
    · rw [if_neg hb]
      cases h : pieces l with
      | nil => simp
      | cons q qs =>
        rw [h] at ih
        refine ⟨by simp at ih ⊢; omega, fun p hp => ?_⟩
        rcases List.mem_cons.1 hp with rfl | hp
        · have := ih.2 q (by simp); simp; omega
        · have := ih.2 p (by simp [hp]); simp; omega
theorem value_is (a : ByteArray) (h : a.size ≤ 4294967280) (k : Nat) (hk : a.size + 1 < k) : control_value.f k a = some (valueL a.data.toList) := by
  have hz : a.data.toList.length = a.size := (size_eq a).symm
  have hpl := pieces_len a.data.toList
  rw [hz] at hpl
  unfold control_value.f control_fair.f
  rw [if_pos (by omega)]
  simp only [Option.bind_some]
  unfold valueL
  cases hf : fairL true a.data.toList with
  | false => rfl
  | true =>
    rw [if_pos rfl]
    unfold strings_Split.f
    rw [if_pos ⟨by omega, rfl⟩]
    simp only [Option.bind_some]
    rw [List.length_map, value_loop (pieces a.data.toList) (by omega) (fun p hp => by have := hpl.2 p hp; omega) k (by omega)]
    rfl

/-- May the field stand behind these? -/
def fieldOk (pre : List S50) (f : S50) : Bool := nameL f.f0.data.toList && valueL f.f1.data.toList && !hasF pre f.f0
def fieldsOk (pre : List S50) : List S50 → Bool
  | [] => true
  | f :: r => fieldOk pre f && fieldsOk (pre ++ [f]) r
def stanzaOk (s : S41) : Bool := decide (s.f1 ≠ []) && fieldsOk [] s.f1
def formedC (l : List S41) : Bool := l.all stanzaOk
def smallF (M : Nat) (f : S50) : Prop := f.f0.size ≤ M ∧ f.f1.size ≤ M
theorem rdS_nat {xs : List S41} {n : Nat} (h : n < xs.length) : rd_T41 xs (n : Int) = xs[n] := by
  unfold rd_T41
  rw [Int.toNat_natCast, List.getD_eq_getElem?_getD, List.getElem?_eq_getElem h]
  rfl
theorem w64s {M j : Nat} (hM : M ≤ 4294967280) (h : j < M) : wrap64 ((j : Int) + 1) = ((j + 1 : Nat) : Int) := by
  rw [w64 (by omega) (by omega)]; omega
theorem le_big {M : Nat} (hM : M ≤ 4294967280) : M ≤ 9223372036854775806 := by omega
theorem le_mid {M x : Nat} (hM : M ≤ 4294967280) (h : x ≤ M) : x ≤ 4398046511104 := by omega
theorem le_low {M x : Nat} (hM : M ≤ 4294967280) (h : x ≤ M) : x ≤ 4294967280 := Nat.le_trans h hM
/-- One field. -/
theorem field_step (l : List S41) (M : Nat) (hM : M ≤ 4294967280) (i : Int) (fs : List S50) (ln : Int) (hm : fs.length ≤ M) (hs : ∀ f ∈ fs, smallF M f) (k j : Nat) (hk : M + 2 < k) (hj : j < fs.length) :
    control_Formed.l1 (k + 1) l (l.length : Int) i fs (fs.length : Int) (j : Int) ln fs = if fieldOk (fs.take j) fs[j] = true then control_Formed.l1 k l (l.length : Int) i fs (fs.length : Int) ((j + 1 : Nat) : Int) ln fs else some false := by
  have hsf := hs fs[j] (List.getElem_mem hj)
  have e0 : mkB fs[j].f0.data.toList = fs[j].f0 := mkB_data _
  have hz : fs[j].f0.data.toList.length = fs[j].f0.size := (size_eq _).symm
  have hb0 := hsf.1
  have hb1 := hsf.2
  have hname := name_is fs[j].f0.data.toList (by rw [hz]; exact le_mid hM hb0) k (by rw [hz]; omega)
  rw [e0] at hname
  have hval := value_is fs[j].f1 (le_low hM hb1) k (by omega)
  have htl : (fs.take j).length ≤ fs.length := by rw [List.length_take]; omega
  have hhas := has_is 0 (fs.take j) fs[j].f0 M (le_big hM) hb0 (fun f hf => (hs f (List.mem_of_mem_take hf)).1) (Nat.le_trans (Nat.le_trans htl hm) (le_big hM)) k (by omega)
  have c1 : (j : Int) < (fs.length : Int) := by omega
  have c2 : (0 : Int) ≤ (j : Int) := by omega
  have c3 : (j : Int) ≤ (fs.length : Int) := by omega
  rw [control_Formed.l1, if_pos c1, if_pos c2, if_pos c1, rdF_nat hj, hname]
  simp only [Option.bind_some]
  unfold fieldOk
  cases hn : nameL fs[j].f0.data.toList with
  | false => simp
  | true =>
    rw [if_pos rfl, hval]
    simp only [Option.bind_some]
    cases hv : valueL fs[j].f1.data.toList with
    | false => simp
    | true =>
      rw [if_pos rfl, if_pos c3, Int.toNat_natCast, hhas]
      simp only [Option.bind_some]
      rw [w64s hM (Nat.lt_of_lt_of_le hj hm)]
      cases hh : hasF (fs.take j) fs[j].f0 with
      | true => simp
      | false => simp
theorem formed_l1 (l : List S41) (M : Nat) (hM : M ≤ 4294967280) (i : Int) (fs : List S50) (ln : Int) (hm : fs.length ≤ M) (hs : ∀ f ∈ fs, smallF M f) (q d : Nat) (hq : M + 2 < q) : ∀ j : Nat, j ≤ fs.length → fs.length - j = d →
    control_Formed.l1 (q + d + 1) l (l.length : Int) i fs (fs.length : Int) (j : Int) ln fs = if fieldsOk (fs.take j) (fs.drop j) = true then control_Formed.l0 q l (l.length : Int) (wrap64 (i + 1)) else some false := by
  induction d with
  | zero =>
    intro j h0 hd
    have c1 : ¬ ((j : Int) < (fs.length : Int)) := by omega
    rw [control_Formed.l1, if_neg c1, List.drop_of_length_le (by omega), fieldsOk, if_pos rfl]
  | succ d ih =>
    intro j h0 hd
    have hlt : j < fs.length := by omega
    rw [show q + (d + 1) + 1 = (q + d + 1) + 1 by omega, field_step l M hM i fs ln hm hs (q + d + 1) j (by omega) hlt, List.drop_eq_getElem_cons hlt, fieldsOk, ih (j + 1) (by omega) (by omega), take_succ' hlt]
    cases fieldOk (fs.take j) fs[j] <;> simp
theorem formed_l0 (l : List S41) (M : Nat) (hM : M ≤ 4294967280) (hl : l.length ≤ M) (hs : ∀ s ∈ l, s.f1.length ≤ M ∧ ∀ f ∈ s.f1, smallF M f) (d : Nat) : ∀ (k i : Nat), i ≤ l.length → l.length - i = d → d * (M + 3) + M + 4 < k →
    control_Formed.l0 k l (l.length : Int) (i : Int) = some (formedC (l.drop i)) := by
  induction d with
  | zero =>
    intro k i h0 hd hk
    obtain ⟨k, rfl⟩ := succ_of hk
    have c1 : ¬ ((i : Int) < (l.length : Int)) := by omega
    rw [control_Formed.l0, if_neg c1, List.drop_of_length_le (by omega)]
    rfl
  | succ d ih =>
    intro k i h0 hd hk
    have hlt : i < l.length := by omega
    have hsi := hs l[i] (List.getElem_mem hlt)
    have hb := hsi.1
    obtain ⟨k, rfl⟩ := succ_of hk
    have en : ∀ (x : S41), formedC (x :: l.drop (i + 1)) = (stanzaOk x && formedC (l.drop (i + 1))) := fun x => rfl
    have c1 : (i : Int) < (l.length : Int) := by omega
    have c2 : (0 : Int) ≤ (i : Int) := by omega
    rw [control_Formed.l0, if_pos c1, if_pos c2, if_pos c1, rdS_nat hlt, List.drop_eq_getElem_cons hlt, en]
    unfold stanzaOk
    by_cases he : l[i].f1 = []
    · rw [if_pos (by rw [he]; rfl), decide_eq_false (by simpa using he)]
      rfl
    · have hp := List.length_pos_iff.2 he
      have hkk : d * (M + 3) + M + 4 + (l[i].f1.length + 2) < k + 1 := by
        have : (d + 1) * (M + 3) = d * (M + 3) + (M + 3) := by rw [Nat.add_mul, Nat.one_mul]
        omega
      obtain ⟨q, rfl⟩ : ∃ q, k = q + l[i].f1.length + 1 := ⟨k - l[i].f1.length - 1, by omega⟩
      have c3 : ¬ ((l[i].f1.length : Int) = 0) := by omega
      rw [if_neg c3, decide_eq_true (by simpa using he), Bool.true_and]
      have h1 := formed_l1 l M hM (i : Int) l[i].f1 l[i].f0 hb hsi.2 q l[i].f1.length (by omega) 0 (by omega) (by omega)
      rw [List.take_zero, List.drop_zero] at h1
      have h1' : control_Formed.l1 (q + l[i].f1.length + 1) l (l.length : Int) (i : Int) l[i].f1 (l[i].f1.length : Int) 0 l[i].f0 l[i].f1 = _ := h1
      rw [h1', w64s hM (Nat.lt_of_lt_of_le hlt hl)]
      cases hf : fieldsOk [] l[i].f1 with
      | false => rfl
      | true =>
        rw [if_pos rfl, Bool.true_and]
        exact ih q (i + 1) (by omega) (by omega) (by omega)
theorem formed_is (l : List S41) (M : Nat) (hM : M ≤ 4294967280) (hl : l.length ≤ M) (hs : ∀ s ∈ l, s.f1.length ≤ M ∧ ∀ f ∈ s.f1, smallF M f) (k : Nat) (hk : l.length * (M + 3) + M + 4 < k) : control_Formed.f k l = some (formedC l) := by
  unfold control_Formed.f
  have := formed_l0 l M hM hl hs l.length k 0 (by omega) (by omega) hk
  simpa using this
end Go.Proofs.YtbaiglikmneicaaDoor.P
end
section
set_option linter.unusedVariables false
set_option linter.unusedSimpArgs false
namespace Go.Proofs.YtbaiglikmneicaaDoor.P
open Go.RowKit Go.Lib Go.Proofs.YtbaiglikmneicaaDoorW.PrintWords Go.Proofs.YtbaiglikmneicaaDoorW.PrintLast Go.Proofs.YtbaiglikmneicaaDoorW.PrintMore
open Go.Proofs.YtbaiglikmneicaaDoor.R (mkB mkB_size mkB_data pieces)
open Go.Proofs.YtbaiglikmneicaaDoor.B (Bld)

/-- The text of a piece, of pieces, of a field, of stanzas. -/
def pieceW (i : Nat) (p : List UInt8) : List UInt8 := (if 0 < i then [10] else []) ++ (if p = [] then [] else 32 :: p)
def piecesW : Nat → List (List UInt8) → List UInt8
  | _, [] => []
  | i, p :: r => pieceW i p ++ piecesW (i + 1) r
def fieldW (f : S50) : List UInt8 := f.f0.data.toList ++ [58] ++ piecesW 0 (pieces f.f1.data.toList) ++ [10]
def fieldsW (fs : List S50) : List UInt8 := fs.flatMap fieldW
def stanzaW (i : Nat) (s : S41) : List UInt8 := (if 0 < i then [10] else []) ++ fieldsW s.f1
def stanzasW : Nat → List S41 → List UInt8
  | _, [] => []
  | i, s :: r => stanzaW i s ++ stanzasW (i + 1) r
def writeC (l : List S41) : ByteArray × Int := if formedC l then (mkB (stanzasW 0 l), 0) else (⟨#[]⟩, 1)
theorem piecesW_snoc (p : List UInt8) : ∀ (i : Nat) (l : List (List UInt8)), piecesW i (l ++ [p]) = piecesW i l ++ pieceW (i + l.length) p
  | i, [] => by simp [piecesW]
  | i, q :: l => by
    rw [List.cons_append, piecesW, piecesW_snoc p (i + 1) l, piecesW, List.append_assoc, List.length_cons, show i + 1 + l.length = i + (l.length + 1) by omega]
theorem stanzasW_snoc (s : S41) : ∀ (i : Nat) (l : List S41), stanzasW i (l ++ [s]) = stanzasW i l ++ stanzaW (i + l.length) s
  | i, [] => by simp [stanzasW]
  | i, q :: l => by
    rw [List.cons_append, stanzasW, stanzasW_snoc s (i + 1) l, stanzasW, List.append_assoc, List.length_cons, show i + 1 + l.length = i + (l.length + 1) by omega]
theorem stanzasW_app : ∀ (i : Nat) (a b : List S41), stanzasW i (a ++ b) = stanzasW i a ++ stanzasW (i + a.length) b
  | i, [], b => by simp [stanzasW]
  | i, q :: l, b => by
    rw [List.cons_append, stanzasW, stanzasW_app (i + 1) l b, stanzasW, List.append_assoc, List.length_cons, show i + 1 + l.length = i + (l.length + 1) by omega]
theorem piecesW_app : ∀ (i : Nat) (a b : List (List UInt8)), piecesW i (a ++ b) = piecesW i a ++ piecesW (i + a.length) b
  | i, [], b => by simp [piecesW]
  | i, q :: l, b => by
    rw [List.cons_append, piecesW, piecesW_app (i + 1) l b, piecesW, List.append_assoc, List.length_cons, show i + 1 + l.length = i + (l.length + 1) by omega]
theorem fieldsW_snoc (fs : List S50) (f : S50) : fieldsW (fs ++ [f]) = fieldsW fs ++ fieldW f := by unfold fieldsW; rw [List.flatMap_append]; simp
theorem fieldsW_app (a b : List S50) : fieldsW (a ++ b) = fieldsW a ++ fieldsW b := by unfold fieldsW; rw [List.flatMap_append]
/-- What is written ahead of a place is no longer than the whole. -/
theorem pre_stanza (l : List S41) (i : Nat) (hi : i < l.length) : (stanzasW 0 (l.take i) ++ stanzaW i l[i]).length ≤ (stanzasW 0 l).length := by
  have e : stanzasW 0 l = stanzasW 0 (l.take i) ++ (stanzaW i l[i] ++ stanzasW (i + 1) (l.drop (i + 1))) := by
    conv => lhs; rw [← List.take_append_drop i l, List.drop_eq_getElem_cons hi]
    rw [stanzasW_app, stanzasW, List.length_take, Nat.zero_add, Nat.min_eq_left (Nat.le_of_lt hi)]
  rw [e, List.length_append, List.length_append, List.length_append]
  omega
theorem pre_field (fs : List S50) (j : Nat) (hj : j < fs.length) : (fieldsW (fs.take j) ++ fieldW fs[j]).length ≤ (fieldsW fs).length := by
  have e : fieldsW fs = fieldsW (fs.take j) ++ (fieldW fs[j] ++ fieldsW (fs.drop (j + 1))) := by
    conv => lhs; rw [← List.take_append_drop j fs, List.drop_eq_getElem_cons hj]
    rw [fieldsW_app]
    rfl
  rw [e, List.length_append, List.length_append, List.length_append]
  omega
theorem pre_piece (P : List (List UInt8)) (m : Nat) (hm : m < P.length) : (piecesW 0 (P.take m) ++ pieceW m P[m]).length ≤ (piecesW 0 P).length := by
  have e : piecesW 0 P = piecesW 0 (P.take m) ++ (pieceW m P[m] ++ piecesW (m + 1) (P.drop (m + 1))) := by
    conv => lhs; rw [← List.take_append_drop m P, List.drop_eq_getElem_cons hm]
    rw [piecesW_app, piecesW, List.length_take, Nat.zero_add, Nat.min_eq_left (Nat.le_of_lt hm)]
  rw [e, List.length_append, List.length_append, List.length_append]
  omega
/-- What the walk asks of the sizes. -/
def SmallC (l : List S41) : Prop := l.length ≤ 4294967280 ∧ (∀ s ∈ l, s.f1.length ≤ 4294967280 ∧ ∀ f ∈ s.f1, smallF 4294967280 f) ∧ (stanzasW 0 l).length ≤ 4398046511104
instance (l : List S41) : Decidable (SmallC l) := by unfold SmallC smallF; infer_instance
def control_Write.f (l : List S41) : Option (ByteArray × Int) := if SmallC l then some (writeC l) else none
/-- Rows of strings, typed 9, stand behind a write of the builder. -/
theorem kept9 {b : Option Nat} {w w' : World} (h : Lib.OthersKept 5 b w w') {g : Nat} {cs : Array Value} {t : TypeId} {fz : Nat × Nat} (hg : w.heap[g]? = some (.cells cs t fz)) (ht : t ≠ 5) (hb : some g ≠ b) : w'.heap[g]? = some (.cells cs t fz) :=
  h g _ hg hb (fun c f e => by injection e with _ h2; exact ht h2)

/-- A row of strings. -/
def StrRow (W : World) (g : Nat) (P : List (List UInt8)) : Prop := ∃ cells, W.heap[g]? = some (.cells cells 9 (0, 0)) ∧ ∀ (i : Nat) (h : i < P.length), cells[i]? = some (Value.string (mkB (P[i]'h)))
theorem StrRow.cell {W : World} {g : Nat} {P : List (List UInt8)} (h : StrRow W g P) (i : Nat) (hi : i < P.length) : W.cell? ⟨g, i, none⟩ = some (.string (mkB P[i])) := by
  obtain ⟨cells, hc, hr⟩ := h
  rw [cell_of_row W g i cells 9 (0, 0) hc]
  exact hr i hi
theorem StrRow.kept {W W' : World} {g : Nat} {P : List (List UInt8)} {b : Option Nat} (h : StrRow W g P) (hk : Lib.OthersKept 5 b W W') (hb : some g ≠ b) : StrRow W' g P := by
  obtain ⟨cells, hc, hr⟩ := h
  exact ⟨cells, kept9 hk hc (by decide) hb, hr⟩
theorem strRow_of {w : World} {base : Nat} {ok : Nat → Prop} {v : Value} {P : List (List UInt8)} (hp : P ≠ []) (h : Kd.R Kd.string 9 w base ok v (P.map mkB)) : ∃ g cap, v = .slice (some ⟨g, 0, none⟩) P.length cap ∧ base ≤ g ∧ StrRow w g P := by
  have hl : 0 < (P.map mkB).length := by rw [List.length_map]; exact List.length_pos_iff.2 hp
  obtain ⟨g, cap, rfl, hb, _, cells, hc⟩ := Kd.R_form h hl
  refine ⟨g, cap, by rw [List.length_map], hb, cells, hc, fun i hi => ?_⟩
  have hi' : i < (P.map mkB).length := by rw [List.length_map]; exact hi
  obtain ⟨ad, e, hx⟩ := Kd.at_string (Kd.R_reads' h).2.2 (i : Int) (by omega) (by omega)
  injection e with e
  subst e
  rw [rdOf_nat hi', List.getElem_map, Int.toNat_natCast, add_plain] at hx
  rw [← cell_of_row w g i cells 9 (0, 0) hc]
  exact hx
set_option maxHeartbeats 16000000 in
set_option maxRecDepth 100000 in
theorem write_walk (A0 : Option Addr) (c0 : Nat) (l0 : List S41) (w : World) (hr0 : Kd.C k41 w A0 l0.length l0) (hc0 : l0.length ≤ c0) (hE : Env w) (hs : SmallC l0) :
    Calls Tryd.prog 19 #[.slice A0 l0.length c0] w fun e w' => e = .returned (.tuple #[.string (writeC l0).1, .int .i64 (writeC l0).2]) ∧ Below w.heap.size w w' := by
  have hu41 := Tryd.underlying41
  have hu50 := Tryd.underlying50
  have hu63 := Tryd.underlying63
  obtain ⟨hn, hm, hT⟩ := hs
  have HR := Aside0.mk hr0
  have HC := Aside0.mk hc0
  have HE := Aside0.mk hE
  have HM := Aside0.mk hm
  have HT := Aside0.mk hT
  obtain ⟨k, hk⟩ : ∃ k, l0.length * (4294967280 + 3) + 4294967280 + 4 < k := ⟨_, Nat.lt_succ_self _⟩
  have HF := Aside0.mk (formed_is l0 4294967280 (Nat.le_refl _) hn hm k hk)
  clear hr0 hc0 hE hm hT hk
  go_enter Tryd.func19, Tryd.ntmps19
  go_wp2_with fail
  refine (control_Formed.calls k A0 c0 l0 (formedC l0) _ HR.out HC.out HE.out HF.out).mono ?_
  rintro e w1 ⟨rfl, hb1⟩
  have HB1 := Aside0.mk hb1
  clear hb1
  cases hok : formedC l0 with
  | false =>
    go_wp2_with fail
    go_ret2
    have hR : writeC l0 = (⟨#[]⟩, 1) := by
      unfold writeC
      rw [if_neg (by rw [hok]; decide)]
    rw [hR]
    exact ⟨rfl, HB1.out⟩
  | true =>
    have HOK := Aside0.mk hok
    clear hok
    have HS := Aside0.mk (Bld.start w1)
    have HN := Aside0.mk (show Tryd.prog.cellsOf 63 = 2 by kernel_rfl)
    go_wp2_with fail
    go_loopw [16] (fun i wr => ∃ n : Nat, n ≤ l0.length ∧ i = .int .i64 n ∧ Aside0 (Bld w1 (stanzasW 0 (l0.take n)) wr)) (fun i _ => l0.length - (RowKit.intOf i).toNat)
    case atStart => exact ⟨0, Nat.zero_le _, rfl, ⟨by simpa [stanzasW] using HS.out⟩⟩
    case round =>
      obtain ⟨n, hnl, rfl, hB⟩ := hrel
      have hbw2 := Aside0.mk (HB1.out.trans (hB.out.below.mono HB1.out.size))
      by_cases hlt : n < l0.length
      · obtain ⟨ad, A1, c1, rfl, hx0, hx1, hl1, hC1⟩ := at_T41 HR.out (n : Int) (by omega) (by omega)
        replace hx0 := (hbw2.out.cell (World.block_lt_of_cell? w _ hx0)).trans hx0
        replace hx1 := (hbw2.out.cell (World.block_lt_of_cell? w _ hx1)).trans hx1
        simp only [Int.toNat_natCast] at hx0 hx1
        have HL1 := Aside0.mk hl1
        have HC1 := Aside0.mk hC1
        clear hl1 hC1
        rw [rdS_nat hlt] at hx0 hx1 HL1 HC1
        have hbl := Aside0.mk (hB.out.alloc (.cells #[.int .i64 l0[n].f0, .slice A1 l0[n].f1.length c1] 41))
        have B6 := Aside0.mk (show (wr.alloc (.cells #[.int .i64 l0[n].f0, .slice A1 l0[n].f1.length c1] 41)).heap[wr.heap.size]? = some (.cells #[.int .i64 l0[n].f0, .slice A1 l0[n].f1.length c1] 41 (0, 0)) from heap_alloc_new wr _)
        have hbn : w1.heap.size < wr.heap.size := hB.out.lt
        have hps := pre_stanza l0 n hlt
        have hT := HT.out
        have hms := HM.out l0[n] (List.getElem_mem hlt)
        have HMS := Aside0.mk hms.2
        have hfl := hms.1
        have hTs : (stanzasW 0 (l0.take n)).length + (stanzaW n l0[n]).length ≤ 4398046511104 := by rw [List.length_append] at hps; omega
        clear hps hT hms
        obtain ⟨PRE, hPRE⟩ : ∃ PRE, stanzasW 0 (l0.take n) ++ (if 0 < n then [10] else []) = PRE := ⟨_, rfl⟩
        have HPRE := Aside0.mk hPRE
        have hTp : PRE.length + (fieldsW l0[n].f1).length ≤ 4398046511104 := by
          rw [← hPRE, List.length_append]
          unfold stanzaW at hTs
          rw [List.length_append] at hTs
          omega
        have hTq : (stanzasW 0 (l0.take n)).length ≤ 4398046511104 := by omega
        clear hTs hPRE
        go_upto_if 22 with (fail)
        go_cut [] (fun wx => Aside0 (Bld w1 PRE wx) ∧ Aside0 (wx.heap[wr.heap.size]? = some (.cells #[.int .i64 l0[n].f0, .slice A1 l0[n].f1.length c1] 41 (0, 0))))
        case first =>
          by_cases hn0 : 0 < n
          · go_wp2_with fail
            refine (Bld.write hbl.out _ (by show _ + 1 ≤ _; omega)).mono ?_
            rintro e w4 ⟨rfl, hb4, hk4⟩
            have HB4 := Aside0.mk hb4
            have HB6 := Aside0.mk (kept9 hk4 B6.out (by decide) (by simp; omega))
            clear hb4 hk4
            go_wp2_with fail
            go_meet
            refine ⟨⟨?_⟩, HB6⟩
            rw [← HPRE.out, if_pos hn0]
            exact HB4.out
          · go_wp2_with fail
            go_meet
            refine ⟨⟨?_⟩, B6⟩
            rw [← HPRE.out, if_neg hn0, List.append_nil]
            exact hbl.out
        case rest =>
          obtain ⟨HP, HB6⟩ := hcut
          have y1 : wc.cell? ⟨wr.heap.size, 1, none⟩ = some (.slice A1 l0[n].f1.length c1) := (blk_cell HB6.out 1).trans rfl
          clear hx0 hx1 B6
          go_wp2_with fail
          clear y1
          go_loopw [27] (fun jv w3 => ∃ j : Nat, j ≤ l0[n].f1.length ∧ jv = .int .i64 j ∧ Aside0 (Bld w1 (PRE ++ fieldsW (l0[n].f1.take j)) w3)) (fun jv _ => l0[n].f1.length - (RowKit.intOf jv).toNat)
          case atStart => exact ⟨0, Nat.zero_le _, rfl, ⟨by simpa [fieldsW] using HP.out⟩⟩
          case round =>
            obtain ⟨j, hjl, rfl, hB3⟩ := hrel
            have hbw3 := Aside0.mk (HB1.out.trans (hB3.out.below.mono HB1.out.size))
            by_cases hlj : j < l0[n].f1.length
            · obtain ⟨ad2, rfl, hy0, hy1⟩ := at_T50 (Kd.C_below HC1.out hbw3.out) (j : Int) (by omega) (by omega)
              simp only [Int.toNat_natCast] at hy0 hy1
              rw [rdF_nat hlj] at hy0 hy1
              have hsf := HMS.out l0[n].f1[j] (List.getElem_mem hlj)
              have hz0 := hsf.1
              have hz1 := hsf.2
              clear hsf
              have hpf := pre_field l0[n].f1 j hlj
              rw [List.length_append] at hpf
              have hTf : (PRE ++ fieldsW (l0[n].f1.take j)).length + (fieldW l0[n].f1[j]).length ≤ 4398046511104 := by rw [List.length_append]; omega
              clear hpf
              have HB8 := Aside0.mk (show (wr.alloc (.cells #[.string l0[n].f1[j].f0, .string l0[n].f1[j].f1] 50)).heap[wr.heap.size]? = some (.cells #[.string l0[n].f1[j].f0, .string l0[n].f1[j].f1] 50 (0, 0)) from heap_alloc_new wr _)
              have hq0 : ¬ (9223372036854775807 < l0[n].f1[j].f0.size + 1) := by omega
              have hbn3 : w1.heap.size < wr.heap.size := hB3.out.lt
              have hB3a := Aside0.mk (hB3.out.alloc (.cells #[.string l0[n].f1[j].f0, .string l0[n].f1[j].f1] 50))
              go_wp2_with fail
              refine (Bld.write hB3a.out _ (by rw [show ∀ a b : ByteArray, (a ++ b).size = a.size + b.size from fun a b => ByteArray.size_append]; show _ + (l0[n].f1[j].f0.size + 1) ≤ _; omega)).mono ?_
              rintro e w5 ⟨rfl, hb5, hk5⟩
              have hblk := kept9 hk5 HB8.out (by decide) (by simp; omega)
              have z1 : w5.cell? ⟨wr.heap.size, 1, none⟩ = some (.string l0[n].f1[j].f1) := (blk_cell hblk 1).trans rfl
              have HB5 := Aside0.mk hb5
              clear hb5 hk5 hblk HB8
              obtain ⟨P, hP⟩ : ∃ P, pieces l0[n].f1[j].f1.data.toList = P := ⟨_, rfl⟩
              have hPl := pieces_len l0[n].f1[j].f1.data.toList
              have hPn := R.pieces_ne l0[n].f1[j].f1.data.toList
              rw [hP] at hPl hPn
              rw [← size_eq] at hPl
              have HP2 := Aside0.mk hP
              have SPL := Aside0.mk (show strings_Split.f l0[n].f1[j].f1 ⟨#[10]⟩ = some (P.map mkB) from by unfold strings_Split.f; rw [if_pos ⟨by omega, rfl⟩, hP])
              have HPL := Aside0.mk hPl.2
              have hPlen := hPl.1
              have HPN := Aside0.mk hPn
              have hTfw : (PRE ++ fieldsW (l0[n].f1.take j)).length + (l0[n].f1[j].f0.data.toList.length + 1 + (piecesW 0 P).length + 1) ≤ 4398046511104 := by
                have := hTf
                unfold fieldW at this
                rw [hP] at this
                simp only [List.length_append, List.length_cons, List.length_nil] at this ⊢
                omega
              clear hPl hPn hP hTf
              go_wp2_with fail
              refine (strings_Split.calls l0[n].f1[j].f1 ⟨#[10]⟩ (P.map mkB) _ (HE.out.below (HB1.out.trans (HB5.out.below.mono HB1.out.size))) SPL.out).mono ?_
              rintro e w6 ⟨v6, rfl, hR6, hb6⟩
              obtain ⟨gp, cp, rfl, hgb, hsr⟩ := strRow_of HPN.out hR6
              have hlt5 := HB5.out.lt
              have hgne := Aside0.mk (show some gp ≠ some w1.heap.size by simp; omega)
              have HB6b := Aside0.mk (HB5.out.on hb6)
              have HSR := Aside0.mk hsr
              clear hR6 hb6 hsr z1 hgb hlt5
              go_wp2_with fail
              go_loopw [39] (fun mv w7 => ∃ m : Nat, m ≤ P.length ∧ mv = .int .i64 m ∧ Aside0 (Bld w1 (PRE ++ fieldsW (l0[n].f1.take j) ++ l0[n].f1[j].f0.data.toList ++ [58] ++ piecesW 0 (P.take m)) w7) ∧ Aside0 (StrRow w7 gp P)) (fun mv _ => P.length - (RowKit.intOf mv).toNat)
              case atStart => exact ⟨0, Nat.zero_le _, rfl, ⟨by simpa [piecesW] using HB6b.out⟩, HSR⟩
              case round =>
                obtain ⟨m, hml, rfl, hB7, hSR⟩ := hrel
                by_cases hlm : m < P.length
                · have hcm := hSR.out.cell m hlm
                  have hpp := pre_piece P m hlm
                  rw [List.length_append] at hpp
                  have hpl := HPL.out P[m] (List.getElem_mem hlm)
                  have hT7 : (PRE ++ fieldsW (l0[n].f1.take j) ++ l0[n].f1[j].f0.data.toList ++ [58] ++ piecesW 0 (P.take m)).length ≤ 4398046511104 := by
                    rw [List.length_append, List.length_append, List.length_append]
                    simp only [List.length_cons, List.length_nil]
                    omega
                  clear hpp
                  have hq1 : ¬ (9223372036854775807 < 1 + (mkB P[m]).size) := by rw [mkB_size]; omega
                  by_cases hm0 : 0 < m
                  · by_cases he : P[m] = []
                    · have hpe := Aside0.mk he
                      have c0 : ((mkB P[m]).toList == ([] : List UInt8)) = true := by rw [mkB_toList, he]; rfl
                      have c1 : ((mkB P[m]).toList != ([] : List UInt8)) = false := by rw [bne, c0]; rfl
                      clear he
                      go_wp2_with fail
                      refine (Bld.write hB7.out _ (by show _ + 1 ≤ _; omega)).mono ?_
                      rintro e w8 ⟨rfl, hb8, hk8⟩
                      have HB8 := Aside0.mk hb8
                      have HR8 := Aside0.mk (hSR.out.kept hk8 hgne.out)
                      clear hb8 hk8
                      have HB9 := HB8
                      have HR9 := HR8
                      go_wp2_with fail
                      go_roundw
                      case rel =>
                        refine ⟨m + 1, by omega, by go_num, ⟨?_⟩, HR9⟩
                        have e9 := HB9.out
                        rw [take_succ' hlm, piecesW_snoc, List.length_take, Nat.zero_add, Nat.min_eq_left (Nat.le_of_lt hlm)]
                        unfold pieceW
                        rw [if_pos hm0, if_pos hpe.out]
                        simpa [mkB] using e9
                      case measure => simp [RowKit.intOf]; omega
                    · have hpe := Aside0.mk he
                      have c0 : ((mkB P[m]).toList == ([] : List UInt8)) = false := beq_eq_false_iff_ne.mpr (by rw [mkB_toList]; exact he)
                      have c1 : ((mkB P[m]).toList != ([] : List UInt8)) = true := by rw [bne, c0]; rfl
                      clear he
                      go_wp2_with fail
                      refine (Bld.write hB7.out _ (by show _ + 1 ≤ _; omega)).mono ?_
                      rintro e w8 ⟨rfl, hb8, hk8⟩
                      have HB8 := Aside0.mk hb8
                      have HR8 := Aside0.mk (hSR.out.kept hk8 hgne.out)
                      clear hb8 hk8
                      go_wp2_with fail
                      refine (Bld.write HB8.out _ (by rw [show ∀ a b : ByteArray, (a ++ b).size = a.size + b.size from fun a b => ByteArray.size_append]; rw [List.length_append]; show _ + 1 + (1 + P[m].length) ≤ _; omega)).mono ?_
                      rintro e w9 ⟨rfl, hb9, hk9⟩
                      have HB9 := Aside0.mk hb9
                      have HR9 := Aside0.mk (HR8.out.kept hk9 hgne.out)
                      clear hb9 hk9
                      go_wp2_with fail
                      go_roundw
                      case rel =>
                        refine ⟨m + 1, by omega, by go_num, ⟨?_⟩, HR9⟩
                        have e9 := HB9.out
                        rw [take_succ' hlm, piecesW_snoc, List.length_take, Nat.zero_add, Nat.min_eq_left (Nat.le_of_lt hlm)]
                        unfold pieceW
                        rw [if_pos hm0, if_neg hpe.out]
                        simpa [mkB] using e9
                      case measure => simp [RowKit.intOf]; omega
                  · by_cases he : P[m] = []
                    · have hpe := Aside0.mk he
                      have c0 : ((mkB P[m]).toList == ([] : List UInt8)) = true := by rw [mkB_toList, he]; rfl
                      have c1 : ((mkB P[m]).toList != ([] : List UInt8)) = false := by rw [bne, c0]; rfl
                      clear he
                      have HB8 := hB7
                      have HR8 := hSR
                      have HB9 := HB8
                      have HR9 := HR8
                      go_wp2_with fail
                      go_roundw
                      case rel =>
                        refine ⟨m + 1, by omega, by go_num, ⟨?_⟩, HR9⟩
                        have e9 := HB9.out
                        rw [take_succ' hlm, piecesW_snoc, List.length_take, Nat.zero_add, Nat.min_eq_left (Nat.le_of_lt hlm)]
                        unfold pieceW
                        rw [if_neg hm0, if_pos hpe.out]
                        simpa [mkB] using e9
                      case measure => simp [RowKit.intOf]; omega
                    · have hpe := Aside0.mk he
                      have c0 : ((mkB P[m]).toList == ([] : List UInt8)) = false := beq_eq_false_iff_ne.mpr (by rw [mkB_toList]; exact he)
                      have c1 : ((mkB P[m]).toList != ([] : List UInt8)) = true := by rw [bne, c0]; rfl
                      clear he
                      have HB8 := hB7
                      have HR8 := hSR
                      go_wp2_with fail
                      refine (Bld.write HB8.out _ (by rw [show ∀ a b : ByteArray, (a ++ b).size = a.size + b.size from fun a b => ByteArray.size_append]; show _ + (1 + P[m].length) ≤ _; omega)).mono ?_
                      rintro e w9 ⟨rfl, hb9, hk9⟩
                      have HB9 := Aside0.mk hb9
                      have HR9 := Aside0.mk (HR8.out.kept hk9 hgne.out)
                      clear hb9 hk9
                      go_wp2_with fail
                      go_roundw
                      case rel =>
                        refine ⟨m + 1, by omega, by go_num, ⟨?_⟩, HR9⟩
                        have e9 := HB9.out
                        rw [take_succ' hlm, piecesW_snoc, List.length_take, Nat.zero_add, Nat.min_eq_left (Nat.le_of_lt hlm)]
                        unfold pieceW
                        rw [if_neg hm0, if_neg hpe.out]
                        simpa [mkB] using e9
                      case measure => simp [RowKit.intOf]; omega
                · obtain rfl : m = P.length := by omega
                  rw [List.take_length] at hB7
                  have hT7 : (PRE ++ fieldsW (l0[n].f1.take j) ++ l0[n].f1[j].f0.data.toList ++ [58] ++ piecesW 0 P).length ≤ 4398046511104 := by
                    rw [List.length_append, List.length_append, List.length_append]
                    simp only [List.length_cons, List.length_nil]
                    omega
                  go_wp2_with fail
                  refine (Bld.write hB7.out _ (by show _ + 1 ≤ _; omega)).mono ?_
                  rintro e w8 ⟨rfl, hb8, hk8⟩
                  have HB8 := Aside0.mk hb8
                  clear hb8 hk8
                  go_wp2_with fail
                  go_roundw
                  case rel =>
                    refine ⟨j + 1, by omega, by go_num, ⟨?_⟩⟩
                    have e8 := HB8.out
                    rw [take_succ' hlj, fieldsW_snoc, fieldW, HP2.out]
                    simpa using e8
                  case measure => simp [RowKit.intOf]; omega
            · obtain rfl : j = l0[n].f1.length := by omega
              rw [List.take_length] at hB3
              go_wp2_with fail
              go_roundw
              case rel =>
                refine ⟨n + 1, by omega, by go_num, ⟨?_⟩⟩
                have e8 := hB3.out
                rw [← HPRE.out] at e8
                rw [take_succ' hlt, stanzasW_snoc, List.length_take, Nat.zero_add, Nat.min_eq_left (Nat.le_of_lt hlt)]
                unfold stanzaW
                simpa using e8
              case measure => simp [RowKit.intOf]; omega
      · obtain rfl : n = l0.length := by omega
        rw [List.take_length] at hB
        go_wp2_with fail
        refine (Bld.string hB.out).mono ?_
        rintro e w' ⟨rfl, hb'⟩
        have HBX := Aside0.mk hb'
        clear hb'
        go_wp2_with fail
        go_ret2
        have hR : writeC l0 = (mkB (stanzasW 0 l0), 0) := by
          unfold writeC
          rw [if_pos HOK.out]
        rw [hR]
        exact ⟨rfl, hbw2.out.trans (HBX.out.mono HB1.out.size)⟩
theorem control_Write.calls (A0 : Option Addr) (c0 : Nat) (l0 : List S41) (r1 : ByteArray) (r2 : Int) (w : World) (hr0 : Kd.C k41 w A0 l0.length l0) (hc0 : l0.length ≤ c0) (hE : Env w) (h : control_Write.f l0 = some (r1, r2)) :
    Calls Tryd.prog 19 #[.slice A0 l0.length c0] w fun e w' => e = .returned (.tuple #[.string r1, .int .i64 r2]) ∧ Below w.heap.size w w' := by
  unfold control_Write.f at h
  by_cases hh : SmallC l0
  · rw [if_pos hh] at h
    have := write_walk A0 c0 l0 w hr0 hc0 hE hh
    rw [Option.some.inj h] at this
    exact this
  · rw [if_neg hh] at h
    cases h
end Go.Proofs.YtbaiglikmneicaaDoor.P
end
