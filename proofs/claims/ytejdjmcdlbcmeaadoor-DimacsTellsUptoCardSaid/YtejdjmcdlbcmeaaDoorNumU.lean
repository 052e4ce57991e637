/- The number that the program takes from a word, against the reference's Tens and Value. No conditions. -/
import Derived.Test.YtejdjmcdlbcmeaaDoorTensU
import Derived.Test.YtejdjmcdlbcmeaaDoorEValueU
set_option linter.unusedVariables false
set_option linter.unusedSimpArgs false
namespace Go.Proofs.YtejdjmcdlbcmeaaDoor.U
open Go.Proofs.YtejdjmcdlbcmeaaDoor.R Go.RowKit Go.Lib Go.Proofs.YtejdjmcdlbcmeaaDoorW.PrintWords Go.Proofs.YtejdjmcdlbcmeaaDoorW.PrintLast Go.Proofs.YtejdjmcdlbcmeaaDoorW.PrintMore

theorem canon_ne {D : List UInt8} (h : canon D = true) : D ≠ [] := by intro e; rw [e] at h; simp [canon] at h
theorem canon_head {c : UInt8} {r : List UInt8} (h : canon (c :: r) = true) : 48 ≤ c.toNat ∧ c.toNat ≤ 57 := by
  have := canon_digits h
  rw [List.all_cons, Bool.and_eq_true] at this
  exact digit_iff this.1
theorem canon_pos {D : List UInt8} (h : canon D = true) (h0 : D ≠ [48]) : pw (D.length - 1) ≤ val_ 0 D := by
  match D, h, h0 with
  | [], h, _ => simp [canon] at h
  | c :: r, h, h0 =>
    have hc := canon_head h
    have hne : c.toNat ≠ 48 := by
      intro e
      have ec : c = 48 := UInt8.toNat_inj.1 e
      cases r with
      | nil => exact h0 (by rw [ec])
      | cons b r =>
        unfold canon at h
        rw [Bool.and_eq_true] at h
        exact (bne_iff_ne.1 h.2) ec
    have hb := val_big r (0 * 10 + (c.toNat - 48))
    have h1 : 1 * pw r.length ≤ (0 * 10 + (c.toNat - 48)) * pw r.length := Nat.mul_le_mul_right _ (by omega)
    show pw r.length ≤ val_ (0 * 10 + (c.toNat - 48)) r
    omega
theorem atoi_pos {D : List UInt8} (h : canon D = true) (hv : val_ 0 D < 9223372036854775808) : atoiAll D = .ok (val_ 0 D : Nat) := by
  match D, h, hv with
  | [], h, _ => simp [canon] at h
  | c :: r, h, hv =>
    have hc := canon_head h
    have hp := parse_ok (c :: r) (canon_digits h) 0 (by omega)
    have hm : parseMag (c :: r) = .ok (val_ 0 (c :: r)) := by unfold parseMag; rw [if_neg (by simp)]; exact hp
    unfold atoiAll
    simp only
    rw [if_neg (by omega), hm]
    simp only
    rw [if_neg (by omega), if_neg (by omega), if_neg (by omega)]
theorem atoi_neg {D : List UInt8} (h : canon D = true) (hv : val_ 0 D < 9223372036854775808) : atoiAll (45 :: D) = .ok (-(val_ 0 D : Nat) : Int) := by
  have hp := parse_ok D (canon_digits h) 0 (by omega)
  have hm : parseMag D = .ok (val_ 0 D) := by unfold parseMag; rw [if_neg (canon_ne h)]; exact hp
  have e45 : (45 : UInt8).toNat = 45 := rfl
  unfold atoiAll
  simp only
  rw [if_pos (Or.inr e45), hm]
  simp only
  rw [if_neg (by omega), if_neg (by omega), if_pos e45]
theorem bt_head (w : ByteArray) {c : UInt8} {r : List UInt8} (h : w.data.toList = c :: r) : bt w 0 = (c.toNat : Int) := by
  have hsz : w.data.toList.length = w.size := by simp
  have h0 : 0 < w.size := by rw [← hsz, h]; simp
  have e := bt_nat w 0 h0
  have hg := by_at w 0 h0
  rw [h] at hg
  have hc : c = UInt8.ofNat (by_ w 0) := Option.some.inj hg
  rw [hc, UInt8.toNat_ofNat', Nat.mod_eq_of_lt (by_lt w 0)]
  exact e
/-- The running number, held at 2^31. -/
theorem numFrom_spec (l : List UInt8) (d : Nat) : ∀ (pos n m : Nat), pos + d = l.length → m = min n 2147483648 →
    (numFrom (mkB l) d pos (m : Int)).2 = (l.drop pos).all digit ∧ ((l.drop pos).all digit = true → (numFrom (mkB l) d pos (m : Int)).1 = ((min (val_ n (l.drop pos)) 2147483648 : Nat) : Int)) := by
  induction d with
  | zero =>
    intro pos n m hp hm
    rw [List.drop_of_length_le (by omega)]
    exact ⟨rfl, fun _ => by rw [hm]; rfl⟩
  | succ d ih =>
    intro pos n m hp hm
    have hlt : pos < l.length := by omega
    rw [List.drop_eq_getElem_cons hlt, numFrom, by_mkB l pos hlt, List.all_cons]
    have hdd : digB (l[pos]).toNat = digit l[pos] := rfl
    rw [hdd]
    cases hd : digit l[pos] with
    | false =>
      rw [if_neg (by decide)]
      exact ⟨rfl, fun h => by simp at h⟩
    | true =>
      have hdi := digit_iff hd
      have hst : stepN (m : Int) (l[pos]).toNat = ((min (n * 10 + ((l[pos]).toNat - 48)) 2147483648 : Nat) : Int) := by
        unfold stepN
        by_cases hb : (m : Int) < 2147483648
        · rw [if_pos hb]; omega
        · rw [if_neg hb]; omega
      rw [if_pos rfl, hst, Bool.true_and]
      exact ih (pos + 1) (n * 10 + ((l[pos]).toNat - 48)) _ (by omega) rfl
theorem canon_is (c : UInt8) (r : List UInt8) : canon (c :: r) = if c = 48 ∧ r ≠ [] then false else (c :: r).all digit := by
  cases r with
  | nil => rw [if_neg (by simp)]; simp [canon]
  | cons b r =>
    by_cases hc : c = 48
    · rw [if_pos ⟨hc, by simp⟩, hc]; simp [canon]
    · rw [if_neg (fun h => hc h.1)]
      have e : canon (c :: b :: r) = ((c :: b :: r).all digit && (c != 48)) := rfl
      have : (c != 48) = true := bne_iff_ne.2 hc
      rw [e, this, Bool.and_true]
/-- The number that a word in tens says, held at 2^31. -/
def satN (l : List UInt8) : Int := match l with
  | [] => 0
  | c :: r => if c = 45 then -((min (val_ 0 r) 2147483648 : Nat) : Int) else ((min (val_ 0 (c :: r)) 2147483648 : Nat) : Int)
theorem eq48 (c : UInt8) : (c.toNat = 48) = (c = 48) := propext ⟨fun h => UInt8.toNat_inj.1 (show c.toNat = (48 : UInt8).toNat from h), fun h => by rw [h]; rfl⟩
theorem num_is (l : List UInt8) : (numR (mkB l)).2 = tensB l ∧ (tensB l = true → (numR (mkB l)).1 = satN l) := by
  cases l with
  | nil => exact ⟨rfl, fun h => by simp [tensB] at h⟩
  | cons c r =>
    by_cases hc : c = 45
    · subst hc
      have hp : hasPrefix (mkB (45 :: r)).data.toList [45] = true := by rw [mkB_list]; simp [hasPrefix, List.isPrefixOf]
      have hT : tensB (45 :: r) = (decide (r ≠ [48]) && canon r) := by unfold tensB; simp
      have hS : satN (45 :: r) = -((min (val_ 0 r) 2147483648 : Nat) : Int) := rfl
      have hs : (mkB (45 :: r)).size = r.length + 1 := by rw [mkB_size]; rfl
      rw [hT, hS]
      unfold numR
      rw [if_pos hp]
      unfold numAt
      rw [hs]
      cases r with
      | nil => rw [if_pos (Or.inl (show 1 = ([] : List UInt8).length + 1 from rfl))]; exact ⟨by simp [canon], fun h => by simp [canon] at h⟩
      | cons b r =>
        have hb : by_ (mkB (45 :: b :: r)) 1 = b.toNat := by rw [by_mkB (45 :: b :: r) 1 (by simp)]; rfl
        rw [hb]
        by_cases h48 : b = 48
        · have e : (decide (b :: r ≠ [48]) && canon (b :: r)) = false := by
            rw [canon_is]
            by_cases hr : r = []
            · subst hr; subst h48; rfl
            · rw [if_pos ⟨h48, hr⟩, Bool.and_false]
          rw [e, if_pos (Or.inr ⟨(eq48 b).symm ▸ h48, by simp⟩)]
          exact ⟨rfl, fun h => by cases h⟩
        · have e : (decide (b :: r ≠ [48]) && canon (b :: r)) = (b :: r).all digit := by
            rw [canon_is, if_neg (fun h => h48 h.1), decide_eq_true (show b :: r ≠ [48] from fun h => h48 (List.head_eq_of_cons_eq h)), Bool.true_and]
          rw [e, if_neg (by rintro (h | h); · simp at h
                            · rw [eq48] at h; exact h48 h.1)]
          have hn := numFrom_spec (45 :: b :: r) (b :: r).length 1 0 0 (by simp; omega) rfl
          rw [show (45 :: b :: r).drop 1 = b :: r from rfl] at hn
          rw [show (b :: r).length + 1 - 1 = (b :: r).length by omega]
          refine ⟨hn.1, fun h => ?_⟩
          have := hn.2 h
          rw [show (((0 : Nat)) : Int) = 0 from rfl] at this
          simp only
          rw [this]
          omega
    · have hp : hasPrefix (mkB (c :: r)).data.toList [45] = false := by
        rw [mkB_list]
        have : (45 : UInt8) ≠ c := fun e => hc e.symm
        simp [hasPrefix, List.isPrefixOf, this]
      have hT : tensB (c :: r) = canon (c :: r) := by
        show (if c = 45 then _ else canon (c :: r)) = _
        rw [if_neg hc]
      have hS : satN (c :: r) = ((min (val_ 0 (c :: r)) 2147483648 : Nat) : Int) := by
        show (if c = 45 then _ else _) = _
        rw [if_neg hc]
      have hs : (mkB (c :: r)).size = r.length + 1 := by rw [mkB_size]; rfl
      have hb : by_ (mkB (c :: r)) 0 = c.toNat := by rw [by_mkB (c :: r) 0 (by simp)]; rfl
      rw [hT, hS]
      unfold numR
      rw [hp, if_neg (by decide)]
      unfold numAt
      rw [hs, hb, canon_is]
      by_cases h48 : c = 48 ∧ r ≠ []
      · have : 1 < r.length + 1 := by have := List.length_pos_iff.2 h48.2; omega
        rw [if_pos h48, if_pos (Or.inr ⟨(eq48 c).symm ▸ h48.1, this⟩)]
        exact ⟨rfl, fun h => by cases h⟩
      · rw [if_neg h48, if_neg (by
          rintro (h | ⟨h1, h2⟩)
          · omega
          · exact h48 ⟨(eq48 c) ▸ h1, fun e => by rw [e] at h2; simp at h2⟩)]
        have hn := numFrom_spec (c :: r) (c :: r).length 0 0 0 (by simp) rfl
        rw [List.drop_zero] at hn
        rw [show r.length + 1 - 0 = (c :: r).length by simp]
        refine ⟨hn.1, fun h => ?_⟩
        have := hn.2 h
        rw [show (((0 : Nat)) : Int) = 0 from rfl] at this
        simp only
        rw [this]
        omega
/-- The reference's number against the one that is held. -/
def near (v x : Int) : Prop := (v = x ∧ -2147483648 < x ∧ x < 2147483648) ∨ (2147483648 ≤ v ∧ x = 2147483648) ∨ (v ≤ -2147483648 ∧ x = -2147483648)
theorem near_pos (n : Nat) (v : Int) (h : v = n ∨ (2147483648 ≤ v ∧ 2147483648 ≤ n)) : near v ((min n 2147483648 : Nat) : Int) := by
  unfold near
  omega
theorem near_neg (n : Nat) (v : Int) (h : v = -(n : Int) ∨ (v ≤ -2147483648 ∧ 2147483648 ≤ n)) : near v (-((min n 2147483648 : Nat) : Int)) := by
  unfold near
  omega
theorem value_is (l : List UInt8) (hl : l.length ≤ 281474976710656) (h : tensB l = true) : ∃ v, depotref03_Value.f (mkB l) = some v ∧ near v (satN l) := by
  have p10 : pw 10 = 10000000000 := rfl
  have hsz := mkB_size l
  have hdl : (mkB l).data.toList = l := mkB_list l
  cases l with
  | nil => simp [tensB] at h
  | cons c r =>
    unfold depotref03_Value.f
    rw [if_pos (by omega)]
    by_cases hc : c = 45
    · subst hc
      have hT : (decide (r ≠ [48]) && canon r) = true := by
        have : tensB (45 :: r) = (decide (r ≠ [48]) && canon r) := by unfold tensB; simp
        rw [← this]; exact h
      rw [Bool.and_eq_true, decide_eq_true_eq] at hT
      have hS : satN (45 :: r) = -((min (val_ 0 r) 2147483648 : Nat) : Int) := rfl
      have hb : bt (mkB (45 :: r)) 0 = 45 := bt_head _ hdl
      rw [hS]
      by_cases hlen : r.length ≤ 10
      · have hv := val_lt r (canon_digits hT.2) 0
        have hpm := pw_mono 10 hlen
        rw [if_neg (show ¬ longW _ by
          rintro (h | ⟨h, h2⟩)
          · rw [hsz, List.length_cons] at h; omega
          · exact h2 hb), hdl, atoi_neg hT.2 (by omega)]
        exact ⟨_, rfl, near_neg _ _ (Or.inl rfl)⟩
      · rw [if_pos (show longW _ from Or.inl (by rw [hsz, List.length_cons]; omega)), if_pos hb]
        have hp := canon_pos hT.2 hT.1
        have hpm : pw 10 ≤ pw (r.length - 1) := pw_mono _ (by omega)
        exact ⟨_, rfl, near_neg _ _ (Or.inr ⟨by decide, by omega⟩)⟩
    · have hT : canon (c :: r) = true := by
        have : tensB (c :: r) = canon (c :: r) := by
          show (if c = 45 then _ else canon (c :: r)) = _
          rw [if_neg hc]
        rw [← this]; exact h
      have hS : satN (c :: r) = ((min (val_ 0 (c :: r)) 2147483648 : Nat) : Int) := by
        show (if c = 45 then _ else _) = _
        rw [if_neg hc]
      have hb : bt (mkB (c :: r)) 0 ≠ 45 := by
        rw [bt_head _ hdl]
        have := canon_head hT
        omega
      rw [hS]
      by_cases hlen : (c :: r).length ≤ 10
      · have hv := val_lt (c :: r) (canon_digits hT) 0
        have hpm := pw_mono 10 hlen
        rw [if_neg (show ¬ longW _ by
          rintro (h | ⟨h, h2⟩)
          · rw [hsz] at h; omega
          · rw [hsz] at h; omega), hdl, atoi_pos hT (by omega)]
        exact ⟨_, rfl, near_pos _ _ (Or.inl rfl)⟩
      · rw [if_pos (show longW _ from Or.inr ⟨by rw [hsz]; omega, hb⟩), if_neg hb]
        have hp := canon_pos hT (by intro e; rw [e] at hlen; simp at hlen)
        have hpm : pw 10 ≤ pw ((c :: r).length - 1) := pw_mono _ (by omega)
        exact ⟨_, rfl, near_pos _ _ (Or.inr ⟨by decide, by omega⟩)⟩
end Go.Proofs.YtejdjmcdlbcmeaaDoor.U
