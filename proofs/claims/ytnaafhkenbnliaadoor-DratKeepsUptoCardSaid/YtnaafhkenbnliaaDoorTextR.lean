/- What depot/depotref03.Value comes to: the number that a text in tens spells, cut at ten digits. No conditions. Lean functions of the Go functions that the laws of this seat reach, and the proof that each call comes to them: written by a program of this session (wip/printx.sh) over the kit's print. No conditions. Numbers in tens: strconv.Itoa and Atoi are each other's way back, on the texts that are written shortest. No conditions. strings.FieldsFunc at blanks, byte by byte: the pieces between bytes 32 and 9. No conditions. What the reference's Words come to: the pieces between blanks. No conditions. What the reference's Lines come to: the text cut at its line feeds, as strings.Cut cuts it. No conditions. What the reference's Tens comes to: is the text a number written shortest? No conditions. A literal's word: what strconv.Atoi, Itoa and Formed take is what the reference's Tens, Value and Formed take. No conditions. The text of literals, of a step, of steps. No conditions. drat's remark and its blanks, and the reference's remark: what they come to. No conditions. -/
import Derived.Test.YtnaafhkenbnliaaDoorAtoiR
import Derived.Test.YtnaafhkenbnliaaDoorRx0
import Derived.Test.YtnaafhkenbnliaaDoorRx1
import Derived.Test.YtnaafhkenbnliaaDoorRx2
import Derived.Lib.AtoiAll
import Derived.Lib.ItoaMem
import Derived.Lib.FieldsP
import Derived.Lib.IndexMore
import Derived.Lib.ItoaLen
import Derived.Laws.RangeAny
import Derived.Shelf.GgClosure.Gives
set_option linter.unusedVariables false
set_option linter.unusedSimpArgs false
namespace Go.Proofs.YtnaafhkenbnliaaDoor.R
open Go.RowKit Go.Proofs.YtnaafhkenbnliaaDoorW.PrintWords Go.Proofs.YtnaafhkenbnliaaDoorW.PrintLast Go.Proofs.YtnaafhkenbnliaaDoorW.PrintMore

/-- Is the text too long for ten digits? -/
def longW (a : ByteArray) : Prop := 11 < a.size ∨ (10 < a.size ∧ bt a 0 ≠ 45)
instance (a : ByteArray) : Decidable (longW a) := by unfold longW; exact inferInstance
/-- What depot/depotref03.Value comes to. -/
def depotref03_Value.f (a0 : ByteArray) : Option Int := if a0.size ≤ 281474976710656 then (if longW a0 then some (if bt a0 0 = 45 then -10000000000 else 10000000000) else match Lib.atoiAll a0.data.toList with | .ok n => some n | _ => none) else none

set_option maxHeartbeats 4000000 in
set_option maxRecDepth 100000 in
theorem depotref03_Value.calls (a0 : ByteArray) (r : Int) (w : World) (hE : Env w) (h : depotref03_Value.f a0 = some r) :
    Calls Tryd.prog 47 #[.string a0] w fun e w' => e = .returned (.int .i64 r) ∧ Below w.heap.size w w' := by
  unfold depotref03_Value.f at h
  by_cases hs : a0.size ≤ 281474976710656
  · rw [if_pos hs] at h
    have HE := Aside0.mk hE
    clear hE
    by_cases hl : longW a0
    · rw [if_pos hl] at h
      have q : (0 < a0.size) = True := eq_true (by rcases hl with h | h <;> omega)
      have qi : (0 < (a0.size : Int)) = True := eq_true (by rcases hl with h | h <;> omega)
      have hx : ∀ h : 0 < a0.size, ((a0[0]'h).toNat : Int) = bt a0 0 := bt_at a0 0
      obtain rfl := Option.some.inj h
      clear h
      by_cases h11 : 11 < a0.size
      · have g11 : (11 < (a0.size : Int)) = True := eq_true (by omega)
        clear hl
        by_cases h45 : bt a0 0 = 45
        · rw [if_pos h45]
          go_enter Tryd.func47, Tryd.ntmps47
          go_wp2_with fail
          go_ret
          exact ⟨rfl, by repeat (first | exact Below.refl _ _ | apply Below.drew)⟩
        · rw [if_neg h45]
          go_enter Tryd.func47, Tryd.ntmps47
          go_wp2_with fail
          go_ret
          exact ⟨rfl, by repeat (first | exact Below.refl _ _ | apply Below.drew)⟩
      · have g11 : (11 < (a0.size : Int)) = False := eq_false (by omega)
        obtain ⟨h10, h45⟩ : 10 < a0.size ∧ bt a0 0 ≠ 45 := hl.resolve_left h11
        have g10 : (10 < (a0.size : Int)) = True := eq_true (by omega)
        rw [if_neg h45]
        go_enter Tryd.func47, Tryd.ntmps47
        go_wp2_with fail
        go_ret
        exact ⟨rfl, by repeat (first | exact Below.refl _ _ | apply Below.drew)⟩
    · rw [if_neg hl] at h
      have h11 : a0.size ≤ 11 := by
        rcases Nat.lt_or_ge 11 a0.size with h | h
        · exact absurd (Or.inl h) hl
        · exact h
      have g11 : (11 < (a0.size : Int)) = False := eq_false (by omega)
      cases hn : Lib.atoiAll a0.data.toList with
      | ok n =>
        rw [hn] at h
        obtain rfl := Option.some.inj h
        clear h
        have fin : ∀ w1, Below w.heap.size w w1 → Calls Tryd.prog 50 #[.string a0] w1 fun e w' => e = .returned (.tuple #[.int .i64 n, .nilIface]) ∧ Below w1.heap.size w1 w' := fun w1 hb => by
          refine (atoi_any a0 hs w1 (HE.out.below hb)).mono ?_
          rintro e w' ⟨⟨n', h1, rfl⟩ | ⟨h1, _⟩, hb'⟩
          · rw [hn] at h1
            cases h1
            exact ⟨rfl, hb'⟩
          · exact absurd hn (h1 n)
        have FIN := Aside0.mk fin
        clear fin
        by_cases h10 : 10 < a0.size
        · have g10 : (10 < (a0.size : Int)) = True := eq_true (by omega)
          have q : (0 < a0.size) = True := eq_true (by omega)
          have qi : (0 < (a0.size : Int)) = True := eq_true (by omega)
          have hx : ∀ h : 0 < a0.size, ((a0[0]'h).toNat : Int) = bt a0 0 := bt_at a0 0
          have h45 : bt a0 0 = 45 := by
            by_cases h : bt a0 0 = 45
            · exact h
            · exact absurd (Or.inr ⟨h10, h⟩) hl
          clear hl
          go_enter Tryd.func47, Tryd.ntmps47
          go_wp2_with fail
          refine (FIN.out _ (by repeat (first | exact Below.refl _ _ | apply Below.drew))).mono ?_
          rintro e w' ⟨rfl, hb⟩
          have HB := Aside0.mk hb
          clear hb
          go_wp2_with fail
          go_ret
          exact ⟨rfl, HB.out⟩
        · have g10 : (10 < (a0.size : Int)) = False := eq_false (by omega)
          clear hl
          go_enter Tryd.func47, Tryd.ntmps47
          go_wp2_with fail
          refine (FIN.out _ (by repeat (first | exact Below.refl _ _ | apply Below.drew))).mono ?_
          rintro e w' ⟨rfl, hb⟩
          have HB := Aside0.mk hb
          clear hb
          go_wp2_with fail
          go_ret
          exact ⟨rfl, HB.out⟩
      | _ => rw [hn] at h; cases h
  · rw [if_neg hs] at h
    cases h
end Go.Proofs.YtnaafhkenbnliaaDoor.R

namespace Go.Proofs.YtnaafhkenbnliaaDoor.R
open Go.RowKit Go.Proofs.YtnaafhkenbnliaaDoorW.PrintWords Go.Proofs.YtnaafhkenbnliaaDoorW.PrintLast Go.Proofs.YtnaafhkenbnliaaDoorW.PrintMore
attribute [local go_sem] max2_int min2_int max_two min_two max_three min_three max_four min_four   -- for this text's walks alone
set_option linter.unusedVariables false
set_option linter.unusedSimpArgs false

/-! ### depotref09_literal: function 46 -/
def depotref09_literal.f (k : Nat) (a0 : ByteArray) : Option (Bool) := (depotref03_Tens.f k a0).bind fun t180 => (if t180 = true then ((depotref03_Value.f a0).bind fun t181 => ((depotref01_Formed.f t181).bind fun t182 => (some t182))) else (some false))
set_option maxHeartbeats 8000000 in
set_option maxRecDepth 100000 in
theorem depotref09_literal.calls (k : Nat) (a0 : ByteArray) (r : Bool) (w : World) (hE : Env w) (h : depotref09_literal.f k a0 = some r) :
    Calls Tryd.prog 46 #[.string a0] w fun e w' => e = .returned (.bool r) ∧ Below w.heap.size w w' := by
  have HB := Aside0.mk (Below.refl w.heap.size w)
  have HE := Aside0.mk hE
  clear hE
  have H : ((depotref03_Tens.f k a0).bind fun t180 => (if t180 = true then ((depotref03_Value.f a0).bind fun t181 => ((depotref01_Formed.f t181).bind fun t182 => (some t182))) else (some false))) = some r := h
  clear h
  replace H := Option.bind_eq_some_iff.mp H
  obtain ⟨t180, A20, H⟩ := H
  replace H : (if t180 = true then ((depotref03_Value.f a0).bind fun t181 => ((depotref01_Formed.f t181).bind fun t182 => (some t182))) else (some false)) = some r := H
  have A2 := Aside0.mk A20
  clear A20
  by_cases c3 : t180 = true
  · subst c3
    have H1 : ((depotref03_Value.f a0).bind fun t181 => ((depotref01_Formed.f t181).bind fun t182 => (some t182))) = some r := by rw [if_pos rfl] at H; exact H
    clear H
    have H := H1
    clear H1
    replace H := Option.bind_eq_some_iff.mp H
    obtain ⟨t181, A40, H⟩ := H
    replace H : ((depotref01_Formed.f t181).bind fun t182 => (some t182)) = some r := H
    have A4 := Aside0.mk A40
    clear A40
    replace H := Option.bind_eq_some_iff.mp H
    obtain ⟨t182, A50, H⟩ := H
    replace H : (some t182) = some r := H
    have A5 := Aside0.mk A50
    clear A50
    obtain rfl := Option.some.inj H
    go_enter Tryd.func46, Tryd.ntmps46
    go_wp2_with (first | ((with_reducible refine gate_callee (f := 53) rfl ?_); refine goesL_ (some 4) rfl rfl Tryd.func53 (by kernel_rfl) rfl #[.string a0] rfl (by (try simp only [List.map_toArray, List.map_cons, List.map_nil]); first | done | rfl | (simp only [List.length_drop, List.length_take]; rfl)) ?_; (with_reducible refine (depotref03_Tens.calls k a0 true _ A2.out).mono ?_); rintro e w' ⟨rfl, ⟨nd, rfl⟩⟩; refine ⟨_, rfl, ?_⟩) | (go_at_call 47; (with_reducible refine (depotref03_Value.calls a0 t181 _ ?side1 A4.out).mono ?_); (case side1 => exact Env.below HE.out (by repeat (first | (with_reducible first | exact HB.out | apply below_alloc | apply pw_below_drewN | apply below_drew1) | exact HB.out))); rintro e w6 ⟨rfl, hb⟩; have n0_ := Aside0.mk (below_step (by repeat (first | (with_reducible first | exact HB.out | apply below_alloc | apply pw_below_drewN | apply below_drew1) | exact HB.out)) hb); clear HB; have HB := n0_; clear n0_; (try clear hb); (try clear hb2); (try clear hk); (try clear hi)) | (go_at_call 36; (with_reducible refine (depotref01_Formed.calls t181 t182 _ A5.out).mono ?_); rintro e w' ⟨rfl, ⟨nd, rfl⟩⟩))
    go_ret
    exact ⟨by first | rfl | (simp [errW_none, errW_some] <;> rfl) | (simp [*, errW_none, errW_some] <;> rfl), by repeat (first | (with_reducible first | exact HB.out | apply below_alloc | apply pw_below_drewN | apply below_drew1) | exact HB.out)⟩
  · replace c3 := Bool.eq_false_iff.mpr c3
    subst c3
    have H1 : (some false) = some r := by rw [if_neg (show ¬ (false = true) by decide)] at H; exact H
    clear H
    have H := H1
    clear H1
    obtain rfl := Option.some.inj H
    go_enter Tryd.func46, Tryd.ntmps46
    go_wp2_with (first | ((with_reducible refine gate_callee (f := 53) rfl ?_); refine goesL_ (some 4) rfl rfl Tryd.func53 (by kernel_rfl) rfl #[.string a0] rfl (by (try simp only [List.map_toArray, List.map_cons, List.map_nil]); first | done | rfl | (simp only [List.length_drop, List.length_take]; rfl)) ?_; (with_reducible refine (depotref03_Tens.calls k a0 false _ A2.out).mono ?_); rintro e w' ⟨rfl, ⟨nd, rfl⟩⟩; refine ⟨_, rfl, ?_⟩))
    go_ret
    exact ⟨by first | rfl | (simp [errW_none, errW_some] <;> rfl) | (simp [*, errW_none, errW_some] <;> rfl), by repeat (first | (with_reducible first | exact HB.out | apply below_alloc | apply pw_below_drewN | apply below_drew1) | exact HB.out)⟩

end Go.Proofs.YtnaafhkenbnliaaDoor.R

set_option linter.unusedVariables false
set_option linter.unusedSimpArgs false
namespace Go.Proofs.YtnaafhkenbnliaaDoor.R
open Go.Lib

def digit (c : UInt8) : Bool := decide (48 ≤ c.toNat ∧ c.toNat ≤ 57)
theorem digit_iff {c : UInt8} (h : digit c = true) : 48 ≤ c.toNat ∧ c.toNat ≤ 57 := by
  unfold digit at h
  exact of_decide_eq_true h
def val_ (acc : Nat) : List UInt8 → Nat
  | [] => acc
  | c :: r => val_ (acc * 10 + (c.toNat - 48)) r
theorem val_append (l m : List UInt8) : ∀ acc, val_ acc (l ++ m) = val_ (val_ acc l) m := by
  induction l with
  | nil => intro acc; rfl
  | cons c l ih => intro acc; exact ih _
theorem val_ge (l : List UInt8) : ∀ acc, acc ≤ val_ acc l := by
  induction l with
  | nil => intro acc; exact Nat.le_refl _
  | cons c l ih => intro acc; exact Nat.le_trans (by omega) (ih _)
def pw : Nat → Nat
  | 0 => 1
  | n + 1 => 10 * pw n
theorem pw_mono {n : Nat} : ∀ m, n ≤ m → pw n ≤ pw m := by
  intro m h
  induction h with
  | refl => exact Nat.le_refl _
  | step _ ih => exact Nat.le_trans ih (by show pw _ ≤ 10 * pw _; omega)
theorem mul_step (a b p : Nat) (h : a ≤ b * 10) : a * p ≤ b * (10 * p) := by
  rw [← Nat.mul_assoc]
  exact Nat.mul_le_mul_right _ h
theorem mul_step2 (a b p : Nat) (h : b * 10 ≤ a) : b * (10 * p) ≤ a * p := by
  rw [← Nat.mul_assoc]
  exact Nat.mul_le_mul_right _ h
theorem val_lt (l : List UInt8) (h : l.all digit = true) : ∀ acc, val_ acc l < (acc + 1) * pw l.length := by
  induction l with
  | nil => intro acc; show acc < (acc + 1) * 1; omega
  | cons c l ih =>
    intro acc
    rw [List.all_cons, Bool.and_eq_true] at h
    have hc := digit_iff h.1
    exact Nat.lt_of_lt_of_le (ih h.2 (acc * 10 + (c.toNat - 48))) (mul_step _ _ _ (by omega))
theorem val_big (l : List UInt8) : ∀ acc, acc * pw l.length ≤ val_ acc l := by
  induction l with
  | nil => intro acc; show acc * 1 ≤ acc; omega
  | cons c l ih =>
    intro acc
    exact Nat.le_trans (mul_step2 _ _ _ (by omega)) (ih (acc * 10 + (c.toNat - 48)))

/-- Digits, at least one, no 0 ahead of others. -/
def canon (l : List UInt8) : Bool := l.all digit && (match l with | [] => false | [_] => true | c :: _ => c != 48)
theorem canon_digits {l : List UInt8} (h : canon l = true) : l.all digit = true := (Bool.and_eq_true _ _ ▸ h : _ ∧ _).1
theorem dec_lt {u : Nat} (h : u < 10) : decDigits u = [UInt8.ofNat (48 + u)] := by rw [decDigits, dif_pos h]
theorem dec_ge {u : Nat} (h : ¬ u < 10) : decDigits u = decDigits (u / 10) ++ [UInt8.ofNat (48 + u % 10)] := by rw [decDigits, dif_neg h]
theorem digit_ofNat {d : Nat} (h : d < 10) : digit (UInt8.ofNat (48 + d)) = true ∧ (UInt8.ofNat (48 + d)).toNat - 48 = d := by
  have : (UInt8.ofNat (48 + d)).toNat = 48 + d := by rw [UInt8.toNat_ofNat']; omega
  unfold digit
  rw [this]
  exact ⟨decide_eq_true (by omega), by omega⟩
theorem canon_snoc {l : List UInt8} (hl : canon l = true) (h0 : l ≠ [48]) {c : UInt8} (hc : digit c = true) : canon (l ++ [c]) = true := by
  unfold canon at hl ⊢
  rw [Bool.and_eq_true] at hl ⊢
  refine ⟨by rw [List.all_append, hl.1]; simpa using hc, ?_⟩
  match l, hl, h0 with
  | [], hl, _ => exact absurd hl.2 (by simp)
  | [a], _, h0 => exact bne_iff_ne.2 (fun e => h0 (by rw [e]))
  | a :: b :: r, hl, _ => exact hl.2
theorem dec_props (u : Nat) : canon (decDigits u) = true ∧ val_ 0 (decDigits u) = u ∧ (decDigits u = [48] → u = 0) := by
  induction u using Nat.strongRecOn with
  | _ u ih =>
    by_cases h : u < 10
    · have hd := digit_ofNat h
      rw [dec_lt h]
      refine ⟨?_, ?_, fun e => ?_⟩
      · show (digit (UInt8.ofNat (48 + u)) && true && true) = true
        rw [hd.1]; rfl
      · show 0 * 10 + ((UInt8.ofNat (48 + u)).toNat - 48) = u
        rw [hd.2]; omega
      · have h48 := hd.2
        have e1 : UInt8.ofNat (48 + u) = 48 := List.head_eq_of_cons_eq e
        rw [e1] at h48
        have e48 : (48 : UInt8).toNat = 48 := rfl
        omega
    · have hd := digit_ofNat (d := u % 10) (Nat.mod_lt _ (by omega))
      obtain ⟨h1, h2, h3⟩ := ih (u / 10) (by omega)
      rw [dec_ge h]
      refine ⟨canon_snoc h1 (fun e => by have := h3 e; omega) hd.1, ?_, fun e => ?_⟩
      · rw [val_append, h2]
        show u / 10 * 10 + ((UInt8.ofNat (48 + u % 10)).toNat - 48) = u
        rw [hd.2]
        omega
      · have := congrArg List.length e
        have h4 : decDigits (u / 10) ≠ [] := by intro e4; rw [e4] at h1; simp [canon] at h1
        have h5 := List.length_pos_iff.2 h4
        rw [List.length_append] at this
        simp only [List.length_cons, List.length_nil] at this
        omega
theorem snoc_of {α : Type} (l : List α) (h : l ≠ []) : ∃ m c, l = m ++ [c] := ⟨l.dropLast, l.getLast h, (List.dropLast_concat_getLast h).symm⟩
/-- What is written shortest is written so. -/
theorem canon_dec (n : Nat) : ∀ l : List UInt8, l.length = n → canon l = true → decDigits (val_ 0 l) = l := by
  induction n with
  | zero =>
    intro l hl h
    obtain rfl := List.eq_nil_of_length_eq_zero hl
    simp [canon] at h
  | succ n ih =>
    intro l hl h
    obtain ⟨m, c, rfl⟩ := snoc_of l (by intro e; rw [e] at hl; simp at hl)
    have hdig := canon_digits h
    rw [List.all_append, Bool.and_eq_true] at hdig
    have hc : digit c = true := by simpa using hdig.2
    have hcr := digit_iff hc
    have ec : UInt8.ofNat (48 + (c.toNat - 48)) = c := by rw [show 48 + (c.toNat - 48) = c.toNat by omega]; simp
    rw [val_append]
    show decDigits (val_ 0 m * 10 + (c.toNat - 48)) = m ++ [c]
    match m, hl, h, hdig with
    | [], _, _, _ =>
      have e0 : val_ 0 [] * 10 + (c.toNat - 48) = c.toNat - 48 := by show 0 * 10 + _ = _; omega
      rw [e0, dec_lt (by omega), ec]
      rfl
    | a :: r, hl, h, hdig =>
      have ha : a ≠ 48 := by
        unfold canon at h
        rw [Bool.and_eq_true] at h
        have h2 := h.2
        cases r <;> exact bne_iff_ne.1 h2
      have hm : canon (a :: r) = true := by
        unfold canon
        rw [hdig.1, Bool.true_and]
        cases r with
        | nil => rfl
        | cons b r => exact bne_iff_ne.2 ha
      have hcm := ih (a :: r) (by simp at hl ⊢; omega) hm
      have had : digit a = true := by have := hdig.1; rw [List.all_cons, Bool.and_eq_true] at this; exact this.1
      have hadr := digit_iff had
      have hpos : 1 ≤ val_ 0 (a :: r) := by
        have h1 := val_ge r (0 * 10 + (a.toNat - 48))
        have h2 : a.toNat ≠ 48 := fun e => ha (UInt8.toNat_inj.1 e)
        show 1 ≤ val_ (0 * 10 + (a.toNat - 48)) r
        omega
      rw [dec_ge (by omega), show (val_ 0 (a :: r) * 10 + (c.toNat - 48)) / 10 = val_ 0 (a :: r) by omega, show (val_ 0 (a :: r) * 10 + (c.toNat - 48)) % 10 = c.toNat - 48 by omega, hcm, ec]
/-- parseUint10 at digits. -/
theorem parse_ok (l : List UInt8) (h : l.all digit = true) : ∀ acc, val_ acc l < 18446744073709551616 → parseUint10 acc l = .ok (val_ acc l) := by
  induction l with
  | nil => intro acc _; rfl
  | cons c l ih =>
    intro acc hv
    rw [List.all_cons, Bool.and_eq_true] at h
    have hc := digit_iff h.1
    have hg := val_ge l (acc * 10 + (c.toNat - 48))
    have hv' : val_ (acc * 10 + (c.toNat - 48)) l < 18446744073709551616 := hv
    rw [parseUint10, if_pos hc, if_neg (by omega), if_neg (by omega)]
    exact ih h.2 _ hv'
end Go.Proofs.YtnaafhkenbnliaaDoor.R

namespace Go.Proofs.YtnaafhkenbnliaaDoor.R
open Go.Lib

def blankR (r : Nat) : Bool := r == 32 || r == 9
/-- The byte at a place. -/
def by_ (s : ByteArray) (i : Nat) : Nat := (s.get! i).toNat
/-- The spans, byte by byte. -/
def spansB (s : ByteArray) : Nat → Nat → Option Nat → List (Nat × Nat) → List (Nat × Nat) × Option Nat
  | 0, _, st, acc => (acc, st)
  | d + 1, pos, st, acc =>
    if blankR (by_ s pos) then
      (match st with
       | some a => spansB s d (pos + 1) none (acc ++ [(a, pos)])
       | none => spansB s d (pos + 1) none acc)
    else
      (match st with
       | some a => spansB s d (pos + 1) (some a) acc
       | none => spansB s d (pos + 1) (some pos) acc)

theorem spansB_blank {s : ByteArray} {pos : Nat} (h : blankR (by_ s pos) = true) (d : Nat) (st : Option Nat) (acc : List (Nat × Nat)) : spansB s (d + 1) pos st acc = spansB s d (pos + 1) none (match st with | some a => acc ++ [(a, pos)] | none => acc) := by
  cases st <;> simp [spansB, h]
theorem spansB_word {s : ByteArray} {pos : Nat} (h : blankR (by_ s pos) = false) (d : Nat) (st : Option Nat) (acc : List (Nat × Nat)) : spansB s (d + 1) pos st acc = spansB s d (pos + 1) (some (match st with | some a => a | none => pos)) acc := by
  cases st <;> simp [spansB, h]

theorem decode_parts (s : ByteArray) (i : Nat) (hi : i < s.size) :
    (by_ s i < 128 ∧ Utf8.decode s i = (by_ s i, 1)) ∨ (128 ≤ by_ s i ∧ 128 ≤ (Utf8.decode s i).1 ∧ ∃ n, (Utf8.decode s i).2 = n + 1 ∧ i + n < s.size ∧ ∀ k, k ≤ n → 128 ≤ by_ s (i + k)) := by
  by_cases h0 : by_ s i < 128
  · refine Or.inl ⟨h0, ?_⟩
    unfold by_ at h0 ⊢
    unfold Utf8.decode
    simp only [Nat.add_zero]
    rw [if_pos h0]
  · refine Or.inr ⟨by omega, ?_⟩
    have b0 : ¬ (s.get! i).toNat < 128 := h0
    unfold Utf8.decode
    simp only [Nat.add_zero]
    rw [if_neg b0]
    have one : 128 ≤ Utf8.runeError ∧ ∃ n, 1 = n + 1 ∧ i + n < s.size ∧ ∀ k, k ≤ n → 128 ≤ by_ s (i + k) := ⟨by decide, 0, rfl, hi, fun k hk => by
      obtain rfl : k = 0 := by omega
      rw [Nat.add_zero]; unfold by_; omega⟩
    split
    · rename_i h
      simp only [Bool.and_eq_true, beq_iff_eq, decide_eq_true_eq] at h
      obtain ⟨_, h1, h2⟩ := h
      split
      · rename_i h3
        refine ⟨h3, 1, rfl, h1, fun k hk => ?_⟩
        rcases Nat.lt_or_ge k 1 with hk1 | hk1
        · obtain rfl : k = 0 := by omega
          rw [Nat.add_zero]; unfold by_; omega
        · obtain rfl : k = 1 := by omega
          unfold by_; omega
      · exact one
    · split
      · rename_i h
        simp only [Bool.and_eq_true, beq_iff_eq, decide_eq_true_eq] at h
        obtain ⟨⟨_, h1, h2⟩, h3, h4⟩ := h
        split
        · rename_i h5
          simp only [Bool.and_eq_true, decide_eq_true_eq] at h5
          refine ⟨Nat.le_trans (by decide) h5.1, 2, rfl, h3, fun k hk => ?_⟩
          rcases (by omega : k = 0 ∨ k = 1 ∨ k = 2) with rfl | rfl | rfl
          · rw [Nat.add_zero]; unfold by_; omega
          · unfold by_; omega
          · unfold by_; omega
        · exact one
      · split
        · rename_i h
          simp only [Bool.and_eq_true, beq_iff_eq, decide_eq_true_eq] at h
          obtain ⟨⟨⟨_, h1, h2⟩, h3, h4⟩, h5, h6⟩ := h
          split
          · rename_i h7
            simp only [Bool.and_eq_true, decide_eq_true_eq] at h7
            refine ⟨Nat.le_trans (by decide) h7.1, 3, rfl, h5, fun k hk => ?_⟩
            rcases (by omega : k = 0 ∨ k = 1 ∨ k = 2 ∨ k = 3) with rfl | rfl | rfl | rfl
            · rw [Nat.add_zero]; unfold by_; omega
            · unfold by_; omega
            · unfold by_; omega
            · unfold by_; omega
          · exact one
        · exact one

theorem blank_high {r : Nat} (h : 128 ≤ r) : blankR r = false := by
  unfold blankR
  rw [Bool.or_eq_false_iff]
  exact ⟨beq_eq_false_iff_ne.2 (by omega), beq_eq_false_iff_ne.2 (by omega)⟩
/-- A run of high bytes, a piece being open. -/
theorem spansB_run (s : ByteArray) (a : Nat) (acc : List (Nat × Nat)) (n : Nat) : ∀ (d pos : Nat), (∀ k, k < n → 128 ≤ by_ s (pos + k)) → spansB s (d + n) pos (some a) acc = spansB s d (pos + n) (some a) acc := by
  induction n with
  | zero => intro d pos _; rfl
  | succ n ih =>
    intro d pos h
    have h0 := h 0 (by omega)
    rw [Nat.add_zero] at h0
    rw [← Nat.add_assoc, spansB_word (blank_high h0)]
    rw [ih d (pos + 1) (fun k hk => by have := h (k + 1) (by omega); rwa [Nat.add_assoc, Nat.add_comm 1 k])]
    congr 1
    omega

theorem spans_eq (s : ByteArray) (d : Nat) : ∀ (f pos : Nat) (st : Option Nat) (acc : List (Nat × Nat)), s.size - pos = d → d ≤ f → spansFromP blankR s f pos st acc = spansB s d pos st acc := by
  induction d using Nat.strongRecOn with
  | _ d ih =>
    intro f pos st acc hd hf
    cases f with
    | zero =>
      obtain rfl : d = 0 := by omega
      rfl
    | succ f =>
      unfold spansFromP
      by_cases hp : pos < s.size
      · rw [if_pos hp]
        obtain ⟨d', rfl⟩ : ∃ d', d = d' + 1 := ⟨d - 1, by omega⟩
        rcases decode_parts s pos hp with ⟨h0, h1⟩ | ⟨h0, h1, n, h2, h3, h4⟩
        · rw [h1]
          have e : ∀ st acc, spansFromP blankR s f (pos + 1) st acc = spansB s d' (pos + 1) st acc := fun st acc => ih d' (by omega) f (pos + 1) st acc (by omega) (by omega)
          simp only [e]
          cases hb : blankR (by_ s pos) with
          | true => rw [spansB_blank hb]; cases st <;> simp
          | false => rw [spansB_word hb]; cases st <;> simp
        · rw [blank_high h1, h2]
          simp only [Bool.false_eq_true, if_false]
          obtain ⟨q, rfl⟩ : ∃ q, d' = q + n := ⟨d' - n, by omega⟩
          have e : ∀ st acc, spansFromP blankR s f (pos + (n + 1)) st acc = spansB s q (pos + (n + 1)) st acc := fun st acc => ih q (by omega) f (pos + (n + 1)) st acc (by omega) (by omega)
          simp only [e]
          rw [spansB_word (blank_high h0)]
          have r : ∀ a, spansB s (q + n) (pos + 1) (some a) acc = spansB s q (pos + 1 + n) (some a) acc := fun a => spansB_run s a acc n q (pos + 1) (fun k hk => by have := h4 (k + 1) (by omega); rwa [Nat.add_assoc, Nat.add_comm 1 k])
          have ep : pos + (n + 1) = pos + 1 + n := by omega
          rw [ep]
          cases st with
          | some a => simp only [r]
          | none => simp only [r]
      · rw [if_neg hp]
        obtain rfl : d = 0 := by omega
        rfl
/-- The words of a line. -/
def wordsB (s : ByteArray) : List ByteArray := (closeSpans s (spansB s s.size 0 none [])).map fun x => s.extract x.1 x.2
theorem goFields_eq (s : ByteArray) : goFieldsP blankR s = wordsB s := by
  unfold goFieldsP spansOfP wordsB
  rw [spans_eq s s.size s.size 0 none [] (by omega) (Nat.le_refl _)]
end Go.Proofs.YtnaafhkenbnliaaDoor.R

set_option linter.unusedVariables false
set_option linter.unusedSimpArgs false
namespace Go.Proofs.YtnaafhkenbnliaaDoor.R
open Go.RowKit Go.Lib Go.Proofs.YtnaafhkenbnliaaDoorW.PrintWords Go.Proofs.YtnaafhkenbnliaaDoorW.PrintLast Go.Proofs.YtnaafhkenbnliaaDoorW.PrintMore

theorem w64r {x : Int} (h0 : -9223372036854775808 ≤ x) (h1 : x ≤ 9223372036854775807) : wrap64 x = x := by
  unfold wrap64; omega
theorem succ_ofr {k d : Nat} (h : d < k) : ∃ m, k = m + 1 := ⟨k - 1, by omega⟩
theorem bt_nat (s : ByteArray) (i : Nat) (h : i < s.size) : bt s (i : Int) = (by_ s i : Int) := by
  unfold bt by_
  rw [Int.toNat_natCast, dif_pos h]
  congr 1
  simp [ByteArray.get!, h]
  rfl
def ext_ (s : ByteArray) (x : Nat × Nat) : ByteArray := s.extract x.1 x.2
def open_ (a i : Nat) : Option Nat := if a < i then some a else none

theorem words_l0 (s : ByteArray) (hs : s.size ≤ 4398046511104) (d : Nat) : ∀ (k i a : Nat) (acc : List (Nat × Nat)), i ≤ s.size → s.size - i = d → a ≤ i → acc.length ≤ i → 2 * d + 3 < k →
    depotref03_Words.l0 k s (acc.map (ext_ s)) (a : Int) (i : Int) = some ((closeSpans s (spansB s d i (open_ a i) acc)).map (ext_ s)) := by
  induction d with
  | zero =>
    intro k i a acc h0 hd ha hl hk
    obtain ⟨k, rfl⟩ := succ_ofr hk
    obtain ⟨k, rfl⟩ := succ_ofr (show 1 < k by omega)
    obtain ⟨k, rfl⟩ := succ_ofr (show 0 < k by omega)
    obtain rfl : i = s.size := by omega
    rw [depotref03_Words.l0, if_pos (by omega), if_neg (by omega), depotref03_Words.j1, if_neg (by decide)]
    simp only [spansB, open_]
    by_cases hai : a < s.size
    · rw [if_pos hai, if_pos (by omega), if_pos (by omega), if_pos (by omega), if_pos (by omega), if_pos (by rw [List.length_map]; omega)]
      rw [w64r (by omega) (by omega), depotref03_Words.l0, if_neg (by omega)]
      simp [closeSpans, ext_]
    · rw [if_neg hai, if_neg (by omega), w64r (by omega) (by omega), depotref03_Words.l0, if_neg (by omega)]
      simp [closeSpans]
  | succ d ih =>
    intro k i a acc h0 hd ha hl hk
    obtain ⟨k, rfl⟩ := succ_ofr hk
    obtain ⟨k, rfl⟩ := succ_ofr (show 2 * d + 3 < k by omega)
    have hi : i < s.size := by omega
    have e1 : ((i : Int) + 1) = ((i + 1 : Nat) : Int) := by omega
    have gap : blankR (by_ s i) = true → depotref03_Words.j1 (k + 1) s (acc.map (ext_ s)) (a : Int) (i : Int) false = some ((closeSpans s (spansB s (d + 1) i (open_ a i) acc)).map (ext_ s)) := by
      intro hb
      rw [spansB_blank hb, depotref03_Words.j1, if_neg (by decide)]
      by_cases hai : a < i
      · rw [if_pos (by omega), if_pos (by omega), if_pos (by omega), if_pos (by omega), if_pos (by rw [List.length_map]; omega), w64r (by omega) (by omega), e1]
        have := ih k (i + 1) (i + 1) (acc ++ [(a, i)]) (by omega) (by omega) (by omega) (by simp; omega) (by omega)
        rw [List.map_append] at this
        simp only [open_, if_pos hai]
        rw [open_, if_neg (Nat.lt_irrefl _)] at this
        simpa [ext_] using this
      · rw [if_neg (by omega), w64r (by omega) (by omega), e1]
        have := ih k (i + 1) (i + 1) acc (by omega) (by omega) (by omega) (by omega) (by omega)
        simp only [open_, if_neg hai]
        rw [open_, if_neg (Nat.lt_irrefl _)] at this
        exact this
    have on : blankR (by_ s i) = false → depotref03_Words.j1 (k + 1) s (acc.map (ext_ s)) (a : Int) (i : Int) true = some ((closeSpans s (spansB s (d + 1) i (open_ a i) acc)).map (ext_ s)) := by
      intro hb
      rw [spansB_word hb, depotref03_Words.j1, if_pos rfl, w64r (by omega) (by omega), e1]
      have := ih k (i + 1) a acc (by omega) (by omega) (by omega) (by omega) (by omega)
      rw [this]
      have e2 : open_ a (i + 1) = some (match open_ a i with | some a => a | none => i) := by
        unfold open_
        by_cases hai : a < i
        · rw [if_pos hai, if_pos (by omega)]
        · rw [if_neg hai, if_pos (by omega)]
          obtain rfl : a = i := by omega
          rfl
      first
        | (rw [e2]; done)
        | (rw [e2]; rfl)
    rw [depotref03_Words.l0, if_pos (by omega), if_pos (by omega), if_pos (by omega), bt_nat s i hi]
    by_cases h32 : (by_ s i : Int) = 32
    · rw [if_pos h32]
      exact gap (by unfold blankR; rw [Bool.or_eq_true]; exact Or.inl (beq_iff_eq.2 (by omega)))
    · rw [if_neg h32]
      by_cases h9 : (by_ s i : Int) = 9
      · have hb : blankR (by_ s i) = true := by unfold blankR; rw [Bool.or_eq_true]; exact Or.inr (beq_iff_eq.2 (by omega))
        rw [h9, bne_self_eq_false]
        exact gap hb
      · have hb : blankR (by_ s i) = false := by
          unfold blankR
          rw [Bool.or_eq_false_iff]
          exact ⟨beq_eq_false_iff_ne.2 (by omega), beq_eq_false_iff_ne.2 (by omega)⟩
        rw [bne_iff_ne.2 h9]
        exact on hb
theorem words_is (s : ByteArray) (hs : s.size ≤ 4398046511104) (k : Nat) (hk : 2 * s.size + 3 < k) : depotref03_Words.f k s = some (wordsB s) := by
  unfold depotref03_Words.f wordsB
  exact words_l0 s hs s.size k 0 0 [] (by omega) (by omega) (by omega) (by simp) hk
end Go.Proofs.YtnaafhkenbnliaaDoor.R

set_option linter.unusedVariables false
set_option linter.unusedSimpArgs false
namespace Go.Proofs.YtnaafhkenbnliaaDoor.R
open Go.RowKit Go.Lib Go.Proofs.YtnaafhkenbnliaaDoorW.PrintWords Go.Proofs.YtnaafhkenbnliaaDoorW.PrintLast Go.Proofs.YtnaafhkenbnliaaDoorW.PrintMore

/-- The lines of a text, cut one by one. -/
def linesL : Nat → List UInt8 → List (List UInt8)
  | 0, _ => []
  | n + 1, l => if l = [] then [] else (cut l [10]).1 :: linesL n (cut l [10]).2.1
theorem linesL_nil (n : Nat) : linesL n [] = [] := by cases n <;> simp [linesL]
theorem occ_iff (l : List UInt8) (i : Nat) : occAt l [10] i = true ↔ l[i]? = some 10 := by
  unfold occAt
  rw [← List.head?_drop]
  cases h : l.drop i with
  | nil => simp
  | cons b t =>
    simp only [List.isPrefixOf, Bool.and_true, beq_iff_eq, List.head?_cons, Option.some.injEq]
    exact eq_comm
theorem cut_at (l : List UInt8) (n : Nat) (h0 : ∀ j, j < n → l[j]? ≠ some 10) (h1 : l[n]? = some 10) : cut l [10] = (l.take n, l.drop (n + 1), true) := by
  have hn : n ≤ l.length := by
    rcases Nat.lt_or_ge n l.length with h | h
    · omega
    · rw [List.getElem?_eq_none h] at h1; cases h1
  have e : index l [10] = (n : Int) := index_first hn ((occ_iff l n).2 h1) (fun j hj => by
    cases h : occAt l [10] j with
    | false => rfl
    | true => exact absurd ((occ_iff l j).1 h) (h0 j hj))
  unfold cut
  rw [e, if_pos (by omega), Int.toNat_natCast]
  rfl
theorem cut_no (l : List UInt8) (h0 : ∀ j : Nat, l[j]? ≠ some 10) : cut l [10] = (l, [], false) := by
  have e : index l [10] = -1 := index_none (fun j _ => by
    cases h : occAt l [10] j with
    | false => rfl
    | true => exact absurd ((occ_iff l j).1 h) (h0 j))
  unfold cut
  rw [e, if_neg (by omega)]
def mk_ (l : List UInt8) : ByteArray := ⟨l.toArray⟩
theorem extract_mk (s : ByteArray) (a b : Nat) : s.extract a b = mk_ ((s.data.toList.drop a).take (b - a)) := by
  unfold mk_
  apply ByteArray.ext
  rw [ByteArray.data_extract]
  apply Array.ext'
  simp
theorem by_at (s : ByteArray) (i : Nat) (h : i < s.size) : s.data.toList[i]? = some (UInt8.ofNat (by_ s i)) := by
  have hl : i < s.data.toList.length := by simpa using h
  rw [List.getElem?_eq_getElem hl]
  unfold by_
  simp [ByteArray.get!, h]

theorem lines_l0 (s : ByteArray) (hs : s.size ≤ 4398046511104) (d : Nat) : ∀ (k i a n : Nat) (acc : List ByteArray), i ≤ s.size → s.size - i = d → a ≤ i → (∀ j, a + j < i → (s.data.toList.drop a)[j]? ≠ some 10) → acc.length ≤ i → d + 1 < k → s.size - a ≤ n →
    depotref03_Lines.l0 k s acc (a : Int) (i : Int) = some (acc ++ (linesL n (s.data.toList.drop a)).map mk_) := by
  have hsz : s.data.toList.length = s.size := by simp
  induction d with
  | zero =>
    intro k i a n acc h0 hd ha hno hl hk hn
    obtain ⟨k, rfl⟩ := succ_ofr hk
    obtain rfl : i = s.size := by omega
    rw [depotref03_Lines.l0, if_neg (by omega)]
    by_cases hai : a < s.size
    · rw [if_pos (by omega), if_pos (by omega), if_pos (by omega), if_pos (by omega)]
      obtain ⟨n, rfl⟩ : ∃ m, n = m + 1 := ⟨n - 1, by omega⟩
      have hne : s.data.toList.drop a ≠ [] := by
        intro h
        have := congrArg List.length h
        simp [hsz] at this
        omega
      have hc := cut_no (s.data.toList.drop a) (fun j => by
        rcases Nat.lt_or_ge (a + j) s.size with hj | hj
        · exact hno j hj
        · rw [List.getElem?_drop, List.getElem?_eq_none (by omega)]; simp)
      rw [linesL, if_neg hne, hc, linesL_nil]
      congr 2
      simp only [List.map_cons, List.map_nil, Int.toNat_natCast]
      rw [extract_mk]
      congr 2
      rw [List.take_of_length_le]
      simp [hsz]
    · rw [if_neg (by omega)]
      rw [List.drop_of_length_le (by omega), linesL_nil]
      simp
  | succ d ih =>
    intro k i a n acc h0 hd ha hno hl hk hn
    obtain ⟨k, rfl⟩ := succ_ofr hk
    have hi : i < s.size := by omega
    have e1 : ((i : Int) + 1) = ((i + 1 : Nat) : Int) := by omega
    have hby : (s.data.toList.drop a)[i - a]? = some (UInt8.ofNat (by_ s i)) := by rw [List.getElem?_drop, show a + (i - a) = i by omega]; exact by_at s i hi
    have hlt : by_ s i < 256 := by unfold by_; exact UInt8.toNat_lt _
    rw [depotref03_Lines.l0, if_pos (by omega), if_pos (by omega), bt_nat s i hi]
    by_cases h10 : (by_ s i : Int) = 10
    · rw [if_pos h10, if_pos (by omega), if_pos (by omega), if_pos (by omega), if_pos (by omega), w64r (by omega) (by omega), e1]
      obtain ⟨n, rfl⟩ : ∃ m, n = m + 1 := ⟨n - 1, by omega⟩
      have hc := cut_at (s.data.toList.drop a) (i - a) (fun j hj => hno j (by omega)) (by rw [hby]; congr 1; rw [show by_ s i = 10 by omega]; rfl)
      have hne : s.data.toList.drop a ≠ [] := by
        intro h
        rw [h] at hby
        cases hby
      rw [ih k (i + 1) (i + 1) n (acc ++ [s.extract (a : Int).toNat (i : Int).toNat]) (by omega) (by omega) (by omega) (fun j hj => by omega) (by simp; omega) (by omega) (by omega)]
      rw [linesL, if_neg hne, hc]
      simp only [List.map_cons, Int.toNat_natCast, List.append_assoc, List.singleton_append, List.drop_drop]
      rw [extract_mk, show a + (i - a + 1) = i + 1 by omega]
    · rw [if_neg h10, w64r (by omega) (by omega), e1]
      refine ih k (i + 1) a n acc (by omega) (by omega) (by omega) (fun j hj => ?_) (by omega) (by omega) hn
      rcases Nat.lt_or_ge (a + j) i with hj2 | hj2
      · exact hno j hj2
      · obtain rfl : j = i - a := by omega
        rw [hby]
        intro h
        have := congrArg UInt8.toNat (Option.some.inj h)
        simp [UInt8.toNat_ofNat'] at this
        omega
theorem lines_is (s : ByteArray) (hs : s.size ≤ 4398046511104) (k : Nat) (hk : s.size + 1 < k) : depotref03_Lines.f k s = some ((linesL s.size s.data.toList).map mk_) := by
  unfold depotref03_Lines.f
  have := lines_l0 s hs s.size k 0 0 s.size [] (by omega) (by omega) (by omega) (fun j hj => by omega) (by simp) hk (by omega)
  simpa using this
end Go.Proofs.YtnaafhkenbnliaaDoor.R

set_option linter.unusedVariables false
set_option linter.unusedSimpArgs false
namespace Go.Proofs.YtnaafhkenbnliaaDoor.R
open Go.RowKit Go.Lib Go.Proofs.YtnaafhkenbnliaaDoorW.PrintWords Go.Proofs.YtnaafhkenbnliaaDoorW.PrintLast Go.Proofs.YtnaafhkenbnliaaDoorW.PrintMore

def tensB (l : List UInt8) : Bool :=
  match l with
  | [] => false
  | c :: r => if c = 45 then decide (r ≠ [48]) && canon r else canon l
theorem by_get (s : ByteArray) (i : Nat) (h : i < s.size) : s.data.toList[i]'(by simpa using h) = UInt8.ofNat (by_ s i) := by
  have := by_at s i h
  rw [List.getElem?_eq_getElem (by simpa using h)] at this
  exact Option.some.inj this
theorem by_lt (s : ByteArray) (i : Nat) : by_ s i < 256 := by unfold by_; exact UInt8.toNat_lt _
theorem digit_by (s : ByteArray) (i : Nat) : digit (UInt8.ofNat (by_ s i)) = decide (48 ≤ by_ s i ∧ by_ s i ≤ 57) := by
  unfold digit
  rw [UInt8.toNat_ofNat', Nat.mod_eq_of_lt (by_lt s i)]
theorem tens_l0 (s : ByteArray) (hs : s.size ≤ 4398046511104) (d : Nat) : ∀ (k i : Nat), i ≤ s.size → s.size - i = d → d < k → depotref03_Tens.l0 k s (i : Int) = some ((s.data.toList.drop i).all digit) := by
  have hsz : s.data.toList.length = s.size := by simp
  induction d with
  | zero =>
    intro k i h0 hd hk
    obtain ⟨k, rfl⟩ := succ_ofr hk
    rw [depotref03_Tens.l0, if_neg (by omega), List.drop_of_length_le (by omega)]
    rfl
  | succ d ih =>
    intro k i h0 hd hk
    obtain ⟨k, rfl⟩ := succ_ofr hk
    have hi : i < s.size := by omega
    rw [depotref03_Tens.l0, if_pos (by omega), if_pos (by omega), bt_nat s i hi, List.drop_eq_getElem_cons (by omega), List.all_cons, by_get s i hi, digit_by]
    by_cases h1 : (by_ s i : Int) < 48
    · rw [if_pos h1, decide_eq_false (by omega)]; rfl
    · rw [if_neg h1]
      by_cases h2 : (by_ s i : Int) > 57
      · rw [if_pos h2, decide_eq_false (by omega)]; rfl
      · rw [if_neg h2, decide_eq_true (by omega), w64r (by omega) (by omega)]
        have := ih k (i + 1) (by omega) (by omega) (by omega)
        simpa using this
theorem tens_j1 (s : ByteArray) (hs : s.size ≤ 4398046511104) (k : Nat) (hk : s.size + 2 < k) : depotref03_Tens.j1 k s = some (canon s.data.toList) := by
  have hsz : s.data.toList.length = s.size := by simp
  obtain ⟨k, rfl⟩ := succ_ofr hk
  obtain ⟨k, rfl⟩ := succ_ofr (show s.size + 1 < k by omega)
  have l0 : depotref03_Tens.l0 k s 0 = some (s.data.toList.all digit) := by
    have := tens_l0 s hs s.size k 0 (by omega) (by omega) (by omega)
    simpa using this
  rw [depotref03_Tens.j1]
  by_cases h0 : (s.size : Int) = 0
  · rw [if_pos h0, depotref03_Tens.j2, if_pos rfl]
    have : s.data.toList = [] := List.eq_nil_of_length_eq_zero (by omega)
    rw [this]
    rfl
  · rw [if_neg h0]
    have hg : s.data.toList[0]? = some (UInt8.ofNat (by_ s 0)) := by_at s 0 (by omega)
    by_cases h1 : (s.size : Int) > 1
    · rw [if_pos h1, if_pos (by omega), depotref03_Tens.j2]
      have hb : bt s 0 = (by_ s 0 : Int) := bt_nat s 0 (by omega)
      rw [hb]
      generalize hl : s.data.toList = l at *
      match l, hsz, hg with
      | [], hsz, _ => simp at hsz; omega
      | [a], hsz, _ => simp at hsz; omega
      | a :: b :: r, hsz, hg =>
        have ha : a = UInt8.ofNat (by_ s 0) := Option.some.inj hg
        have hlt := by_lt s 0
        by_cases h48 : (by_ s 0 : Int) = 48
        · rw [h48, beq_self_eq_true, if_pos rfl]
          have : a = 48 := by rw [ha, show by_ s 0 = 48 by omega]; rfl
          rw [this]
          simp [canon]
        · rw [if_neg (by rw [beq_iff_eq]; exact h48), l0]
          have : a ≠ 48 := by
            intro e
            rw [ha] at e
            have := congrArg UInt8.toNat e
            rw [UInt8.toNat_ofNat', Nat.mod_eq_of_lt hlt] at this
            have e48 : (48 : UInt8).toNat = 48 := rfl
            omega
          show some ((a :: b :: r).all digit) = some ((a :: b :: r).all digit && (a != 48))
          rw [bne_iff_ne.2 this, Bool.and_true]
    · rw [if_neg h1, depotref03_Tens.j2, if_neg (by decide), l0]
      clear hg l0
      generalize hl : s.data.toList = l at *
      match l, hsz with
      | [], hsz => simp at hsz; omega
      | [a], hsz => simp [canon]
      | a :: b :: r, hsz => simp at hsz; omega
theorem tens_is (s : ByteArray) (hs : s.size ≤ 4398046511104) (k : Nat) (hk : s.size + 3 < k) : depotref03_Tens.f k s = some (tensB s.data.toList) := by
  have hsz : s.data.toList.length = s.size := by simp
  obtain ⟨k, rfl⟩ := succ_ofr hk
  unfold depotref03_Tens.f
  by_cases h0 : (s.size : Int) > 0
  · rw [if_pos h0, if_pos (by omega), depotref03_Tens.j0]
    have hb : bt s 0 = (by_ s 0 : Int) := bt_nat s 0 (by omega)
    have hg := by_get s 0 (by omega)
    have hlt := by_lt s 0
    rw [hb]
    have hne : s.data.toList ≠ [] := by intro h; rw [h] at hsz; simp at hsz; omega
    obtain ⟨a, r, har⟩ := List.exists_cons_of_ne_nil hne
    have ha : a = UInt8.ofNat (by_ s 0) := by
      have := hg
      simp only [har, List.getElem_cons_zero] at this
      exact this
    by_cases h45 : (by_ s 0 : Int) = 45
    · have ea : a = 45 := by rw [ha, show by_ s 0 = 45 by omega]; rfl
      rw [h45, beq_self_eq_true, if_pos rfl, if_pos (by omega)]
      have hx : (s.extract 1 s.size).data.toList = r := by
        rw [extract_data, har]
        simp only [List.drop_succ_cons, List.drop_zero]
        rw [List.take_of_length_le]
        rw [har] at hsz
        simp at hsz
        omega
      have hxs : (s.extract 1 s.size).size ≤ s.size := by simp
      rw [ByteArray.toList_eq, hx, har]
      simp only [tensB]
      rw [if_pos ea]
      by_cases hr : r = [48]
      · rw [if_pos hr, hr]; rfl
      · rw [if_neg hr, tens_j1 _ (by omega) k (by omega), hx, decide_eq_true hr, Bool.true_and]
    · rw [if_neg (by rw [beq_iff_eq]; exact h45), tens_j1 s hs k (by omega), har]
      have ea : a ≠ 45 := by
        intro e
        rw [ha] at e
        have := congrArg UInt8.toNat e
        rw [UInt8.toNat_ofNat', Nat.mod_eq_of_lt hlt] at this
        have e45 : (45 : UInt8).toNat = 45 := rfl
        omega
      simp only [tensB]
      rw [if_neg ea]
  · rw [if_neg h0, depotref03_Tens.j0, if_neg (by decide), tens_j1 s hs k (by omega)]
    have : s.data.toList = [] := List.eq_nil_of_length_eq_zero (by omega)
    rw [this]
    rfl
end Go.Proofs.YtnaafhkenbnliaaDoor.R

set_option linter.unusedVariables false
set_option linter.unusedSimpArgs false
namespace Go.Proofs.YtnaafhkenbnliaaDoor.R
open Go.RowKit Go.Lib Go.Proofs.YtnaafhkenbnliaaDoorW.PrintWords Go.Proofs.YtnaafhkenbnliaaDoorW.PrintLast Go.Proofs.YtnaafhkenbnliaaDoorW.PrintMore

def litOk (x : Int) : Bool := decide (x ≠ 0 ∧ -1048576 ≤ x ∧ x ≤ 1048576)
theorem refFormed_is (x : Int) : depotref01_Formed.f x = some (litOk x) := by
  unfold depotref01_Formed.f litOk
  by_cases h : x ≥ 1
  · rw [if_pos h]
    by_cases h1 : x ≤ 1048576
    · rw [if_pos h1]; congr 1; symm; rw [decide_eq_true_eq]; omega
    · rw [if_neg h1, if_pos (by omega)]; congr 1; rw [decide_eq_decide]; omega
  · rw [if_neg h]
    by_cases h1 : x ≥ -1048576
    · rw [if_pos h1]; congr 1; rw [decide_eq_decide]; omega
    · rw [if_neg h1]; congr 1; symm; rw [decide_eq_false_iff_not]; omega
/-- The literal that a word is. -/
def litN (l : List UInt8) : Option Int :=
  match atoiAll l with
  | .ok n => if itoa n = l ∧ litOk n = true then some n else none
  | _ => none
theorem litN_some {l : List UInt8} {n : Int} (h : litN l = some n) : atoiAll l = .ok n ∧ itoa n = l ∧ litOk n = true := by
  unfold litN at h
  cases ha : atoiAll l with
  | ok m =>
    rw [ha] at h
    simp only at h
    by_cases hc : itoa m = l ∧ litOk m = true
    · rw [if_pos hc] at h
      obtain rfl := Option.some.inj h
      exact ⟨rfl, hc⟩
    · rw [if_neg hc] at h
      cases h
  | _ => rw [ha] at h; cases h
theorem canon_ne {D : List UInt8} (h : canon D = true) : D ≠ [] := by intro e; rw [e] at h; simp [canon] at h
theorem canon_head {c : UInt8} {r : List UInt8} (h : canon (c :: r) = true) : 48 ≤ c.toNat ∧ c.toNat ≤ 57 := by
  have := canon_digits h
  rw [List.all_cons, Bool.and_eq_true] at this
  exact digit_iff this.1
theorem canon_pos {D : List UInt8} (h : canon D = true) (h0 : D ≠ [48]) : pw (D.length - 1) ≤ val_ 0 D := by
  match D, h, h0 with
  | [], h, _ => simp [canon] at h
  | c :: r, h, h0 =>
    have hc := canon_head h
    have hne : c.toNat ≠ 48 := by
      intro e
      have ec : c = 48 := UInt8.toNat_inj.1 e
      cases r with
      | nil => exact h0 (by rw [ec])
      | cons b r =>
        unfold canon at h
        rw [Bool.and_eq_true] at h
        exact (bne_iff_ne.1 h.2) ec
    have hb := val_big r (0 * 10 + (c.toNat - 48))
    have h1 : 1 * pw r.length ≤ (0 * 10 + (c.toNat - 48)) * pw r.length := Nat.mul_le_mul_right _ (by omega)
    show pw r.length ≤ val_ (0 * 10 + (c.toNat - 48)) r
    omega
theorem pw_pos (n : Nat) : 1 ≤ pw n := by
  induction n with
  | zero => exact Nat.le_refl _
  | succ n ih => show 1 ≤ 10 * pw n; omega
theorem atoi_pos {D : List UInt8} (h : canon D = true) (hv : val_ 0 D < 9223372036854775808) : atoiAll D = .ok (val_ 0 D : Nat) := by
  match D, h, hv with
  | [], h, _ => simp [canon] at h
  | c :: r, h, hv =>
    have hc := canon_head h
    have hp := parse_ok (c :: r) (canon_digits h) 0 (by omega)
    have hm : parseMag (c :: r) = .ok (val_ 0 (c :: r)) := by unfold parseMag; rw [if_neg (by simp)]; exact hp
    unfold atoiAll
    simp only
    rw [if_neg (by omega), hm]
    simp only
    rw [if_neg (by omega), if_neg (by omega), if_neg (by omega)]
theorem atoi_neg {D : List UInt8} (h : canon D = true) (hv : val_ 0 D < 9223372036854775808) : atoiAll (45 :: D) = .ok (-(val_ 0 D : Nat) : Int) := by
  have hp := parse_ok D (canon_digits h) 0 (by omega)
  have hm : parseMag D = .ok (val_ 0 D) := by unfold parseMag; rw [if_neg (canon_ne h)]; exact hp
  have e45 : (45 : UInt8).toNat = 45 := rfl
  unfold atoiAll
  simp only
  rw [if_pos (Or.inr e45), hm]
  simp only
  rw [if_neg (by omega), if_neg (by omega), if_pos e45]
theorem itoa_pos {D : List UInt8} (h : canon D = true) : itoa (val_ 0 D : Nat) = D := by rw [itoa_nonneg, canon_dec D.length D rfl h]
theorem itoa_negc {D : List UInt8} (h : canon D = true) (h0 : D ≠ [48]) : itoa (-(val_ 0 D : Nat) : Int) = 45 :: D := by
  have h1 := canon_pos h h0
  have h2 := pw_pos (D.length - 1)
  rw [itoa_neg _ (by omega), canon_dec D.length D rfl h]
theorem tens_itoa (n : Int) : tensB (itoa n) = true := by
  by_cases hn : n < 0
  · have e : itoa n = 45 :: decDigits n.natAbs := by unfold itoa; rw [if_pos hn]
    obtain ⟨h1, h2, h3⟩ := dec_props n.natAbs
    rw [e]
    simp only [tensB]
    rw [if_pos trivial, h1, Bool.and_true]
    exact decide_eq_true (fun e => by have := h3 e; omega)
  · have e : itoa n = decDigits n.toNat := by unfold itoa; rw [if_neg hn]
    obtain ⟨h1, h2, h3⟩ := dec_props n.toNat
    rw [e]
    match hd : decDigits n.toNat, h1 with
    | [], h1 => simp [canon] at h1
    | c :: r, h1 =>
      have hc := canon_head h1
      simp only [tensB]
      rw [if_neg (by intro e; rw [e] at hc; have e45 : (45 : UInt8).toNat = 45 := rfl; omega), h1]
/-- The shape of a number written shortest. -/
theorem tens_shape {l : List UInt8} (h : tensB l = true) : ∃ D, canon D = true ∧ ((l = D ∧ ∀ r, l ≠ 45 :: r) ∨ (l = 45 :: D ∧ D ≠ [48])) := by
  match l, h with
  | [], h => simp [tensB] at h
  | c :: r, h =>
    simp only [tensB] at h
    by_cases hc : c = 45
    · rw [if_pos hc, Bool.and_eq_true, decide_eq_true_eq] at h
      exact ⟨r, h.2, Or.inr ⟨by rw [hc], h.1⟩⟩
    · rw [if_neg hc] at h
      exact ⟨c :: r, h, Or.inl ⟨rfl, fun r' e => hc (List.head_eq_of_cons_eq e)⟩⟩

theorem bt_head (w : ByteArray) {c : UInt8} {r : List UInt8} (h : w.data.toList = c :: r) : bt w 0 = (c.toNat : Int) := by
  have hsz : w.data.toList.length = w.size := by simp
  have h0 : 0 < w.size := by rw [← hsz, h]; simp
  have e := bt_nat w 0 h0
  have hg := by_at w 0 h0
  rw [h] at hg
  have hc : c = UInt8.ofNat (by_ w 0) := Option.some.inj hg
  rw [hc, UInt8.toNat_ofNat', Nat.mod_eq_of_lt (by_lt w 0)]
  exact e
theorem litN_of {l : List UInt8} {n : Int} (ha : atoiAll l = .ok n) (hi : itoa n = l) : litN l = if litOk n then some n else none := by
  unfold litN
  rw [ha]
  simp only [hi, true_and]

/-- A word is a literal alike. -/
theorem literal_is (w : ByteArray) (hs : w.size ≤ 4398046511104) (k : Nat) (hk : w.size + 3 < k) :
    depotref09_literal.f k w = some (litN w.data.toList).isSome ∧ ∀ n, litN w.data.toList = some n → depotref03_Value.f w = some n := by
  have hsz : w.data.toList.length = w.size := by simp
  have T := tens_is w hs k hk
  unfold depotref09_literal.f
  rw [T]
  simp only [Option.bind_some]
  cases ht : tensB w.data.toList with
  | false =>
    have hno : litN w.data.toList = none := by
      cases hl : litN w.data.toList with
      | none => rfl
      | some n =>
        obtain ⟨_, h2, _⟩ := litN_some hl
        have := tens_itoa n
        rw [h2, ht] at this
        cases this
    rw [hno, if_neg (by decide)]
    exact ⟨rfl, fun n h => by cases h⟩
  | true =>
    rw [if_pos rfl]
    obtain ⟨D, hD, hsh⟩ := tens_shape ht
    have hDl : 1 ≤ D.length := List.length_pos_iff.2 (canon_ne hD)
    have p10 : pw 10 = 10000000000 := rfl
    by_cases hlen : D.length ≤ 10
    · have hv := val_lt D (canon_digits hD) 0
      have hpm := pw_mono 10 hlen
      have hv2 : val_ 0 D < 10000000000 := by rw [← p10]; omega
      have fin : ∀ n, atoiAll w.data.toList = .ok n → itoa n = w.data.toList → ¬ longW w →
          ((depotref03_Value.f w).bind fun t118 => ((depotref01_Formed.f t118).bind fun t119 => (some t119))) = some (litN w.data.toList).isSome ∧ ∀ m, litN w.data.toList = some m → depotref03_Value.f w = some m := by
        intro n ha hi hl
        have hV : depotref03_Value.f w = some n := by
          unfold depotref03_Value.f
          rw [if_pos (by omega), if_neg hl, ha]
        rw [hV, litN_of ha hi]
        simp only [Option.bind_some, refFormed_is]
        cases litOk n with
        | true => exact ⟨rfl, fun m h => h⟩
        | false => exact ⟨rfl, fun m h => by cases h⟩
      rcases hsh with ⟨hl, hno⟩ | ⟨hl, h48⟩
      · refine fin (val_ 0 D : Nat) ?_ ?_ ?_
        · rw [hl]; exact atoi_pos hD (by omega)
        · rw [hl]; exact itoa_pos hD
        · rintro (h | ⟨h, _⟩) <;> (rw [← hsz, hl] at h; omega)
      · refine fin (-(val_ 0 D : Nat) : Int) ?_ ?_ ?_
        · rw [hl]; exact atoi_neg hD (by omega)
        · rw [hl]; exact itoa_negc hD h48
        · rintro (h | ⟨h, h2⟩)
          · rw [← hsz, hl, List.length_cons] at h; omega
          · exact h2 (bt_head w hl)
    · have hlong : longW w := by
        rcases hsh with ⟨hl, hno⟩ | ⟨hl, h48⟩
        · refine Or.inr ⟨by rw [← hsz, hl]; omega, ?_⟩
          match hD' : D, hl with
          | [], _ => simp at hDl
          | c :: r, hl =>
            rw [bt_head w hl]
            have hc := canon_head hD
            omega
        · exact Or.inl (by rw [← hsz, hl, List.length_cons]; omega)
      have hD48 : D ≠ [48] := by intro e; rw [e] at hlen; simp at hlen
      have hbig := canon_pos hD hD48
      have hpm : pw 10 ≤ pw (D.length - 1) := pw_mono _ (by omega)
      have hno : litN w.data.toList = none := by
        cases hl : litN w.data.toList with
        | none => rfl
        | some n =>
          obtain ⟨_, h2, h3⟩ := litN_some hl
          have h4 : n ≠ 0 ∧ -1048576 ≤ n ∧ n ≤ 1048576 := by unfold litOk at h3; exact of_decide_eq_true h3
          exfalso
          by_cases hn : n < 0
          · have e : itoa n = 45 :: decDigits n.natAbs := by unfold itoa; rw [if_pos hn]
            obtain ⟨_, d2, _⟩ := dec_props n.natAbs
            rcases hsh with ⟨hl', hno⟩ | ⟨hl', _⟩
            · exact hno _ (h2.symm.trans e)
            · have e2 : 45 :: D = 45 :: decDigits n.natAbs := by rw [← hl', ← h2, e]
              injection e2 with _ e3
              rw [← e3] at d2
              omega
          · have e : itoa n = decDigits n.toNat := by unfold itoa; rw [if_neg hn]
            obtain ⟨d1, d2, _⟩ := dec_props n.toNat
            rcases hsh with ⟨hl', _⟩ | ⟨hl', _⟩
            · have e3 : D = decDigits n.toNat := by rw [← hl', ← h2, e]
              rw [← e3] at d2
              omega
            · have e3 : 45 :: D = decDigits n.toNat := by rw [← hl', ← h2, e]
              rw [← e3] at d1
              have := canon_head d1
              have e45 : (45 : UInt8).toNat = 45 := rfl
              omega
      have hV : depotref03_Value.f w = some (if bt w 0 = 45 then -10000000000 else 10000000000) := by
        unfold depotref03_Value.f
        rw [if_pos (by omega), if_pos hlong]
      rw [hV, hno]
      simp only [Option.bind_some, refFormed_is]
      refine ⟨?_, fun n h => by cases h⟩
      split <;> rfl
end Go.Proofs.YtnaafhkenbnliaaDoor.R

set_option linter.unusedVariables false
set_option linter.unusedSimpArgs false
namespace Go.Proofs.YtnaafhkenbnliaaDoor.R
open Go.RowKit Go.Lib Go.Proofs.YtnaafhkenbnliaaDoorW.PrintWords Go.Proofs.YtnaafhkenbnliaaDoorW.PrintLast Go.Proofs.YtnaafhkenbnliaaDoorW.PrintMore

def wordsT (l : List Int) : List UInt8 := l.flatMap fun x => Lib.itoa x ++ [32]
def headT (b : Bool) : List UInt8 := if b then [100, 32] else []
def stepT (s : S47) : List UInt8 := headT s.f0 ++ wordsT s.f1 ++ [48, 10]
def stepsT (l : List S47) : List UInt8 := l.flatMap stepT
theorem wordsT_snoc (l : List Int) (x : Int) : wordsT (l ++ [x]) = wordsT l ++ (Lib.itoa x ++ [32]) := by unfold wordsT; rw [List.flatMap_append]; simp
theorem stepsT_snoc (l : List S47) (s : S47) : stepsT (l ++ [s]) = stepsT l ++ stepT s := by unfold stepsT; rw [List.flatMap_append]; simp
theorem litOk_range {x : Int} (h : litOk x = true) : -1048576 ≤ x ∧ x ≤ 1048576 := by simp [litOk] at h; omega
theorem wordsT_length (l : List Int) (h : l.all litOk = true) : (wordsT l).length ≤ 22 * l.length := by
  induction l with
  | nil => simp [wordsT]
  | cons x l ih =>
    rw [List.all_cons, Bool.and_eq_true] at h
    have h1 := litOk_range h.1
    have h2 := Lib.itoa_length_le x (by omega) (by omega)
    have h3 := ih h.2
    simp only [wordsT, List.flatMap_cons, List.length_append, List.length_cons, List.length_nil] at h3 ⊢
    omega
def soundS (s : S47) : Bool := s.f1.all litOk
theorem stepsT_length (l : List S47) (m : Nat) (hm : ∀ s ∈ l, s.f1.length ≤ m) (h : ∀ s ∈ l, soundS s = true) : (stepsT l).length ≤ l.length * (22 * m + 4) := by
  induction l with
  | nil => simp [stepsT]
  | cons s l ih =>
    have h1 := ih (fun s hs => hm s (List.mem_cons_of_mem _ hs)) (fun s hs => h s (List.mem_cons_of_mem _ hs))
    have h2 := hm s List.mem_cons_self
    have h3 := wordsT_length s.f1 (h s List.mem_cons_self)
    simp only [stepsT, List.flatMap_cons, List.length_append, List.length_cons] at h1 ⊢
    have : (stepT s).length ≤ 22 * m + 4 := by
      simp only [stepT, headT, List.length_append, List.length_cons, List.length_nil]
      split <;> simp <;> omega
    rw [Nat.add_mul]
    omega
/-- The bulk of steps. -/
def bulkS : List S47 → Nat
  | [] => 0
  | s :: l => s.f1.length + 1 + bulkS l
def dratR (l : List S47) : ByteArray × Int := if l.all soundS then (⟨(stepsT l).toArray⟩, 0) else (⟨#[]⟩, 1)
end Go.Proofs.YtnaafhkenbnliaaDoor.R

set_option linter.unusedVariables false
set_option linter.unusedSimpArgs false
namespace Go.Proofs.YtnaafhkenbnliaaDoor.R
open Go.RowKit Go.Lib Go.Proofs.YtnaafhkenbnliaaDoorW.PrintWords Go.Proofs.YtnaafhkenbnliaaDoorW.PrintLast Go.Proofs.YtnaafhkenbnliaaDoorW.PrintMore

def okB (b : Nat) : Bool := b == 9 || decide (32 ≤ b ∧ b ≤ 126)
def remFrom (s : ByteArray) : Nat → Nat → Bool
  | 0, _ => true
  | d + 1, pos => okB (by_ s pos) && remFrom s d (pos + 1)
def remF (s : ByteArray) : Bool := remFrom s s.size 0
theorem refRemark_l0 (s : ByteArray) (hs : s.size ≤ 4398046511104) (d : Nat) : ∀ (k i : Nat), i ≤ s.size → s.size - i = d → d < k → depotref09_remark.l0 k s (i : Int) = some (remFrom s d i) := by
  induction d with
  | zero =>
    intro k i h0 hd hk
    obtain ⟨k, rfl⟩ := succ_ofr hk
    rw [depotref09_remark.l0, if_neg (by omega)]
    rfl
  | succ d ih =>
    intro k i h0 hd hk
    obtain ⟨k, rfl⟩ := succ_ofr hk
    have hi : i < s.size := by omega
    have hn := ih k (i + 1) (by omega) (by omega) (by omega)
    have e1 : wrap64 ((i : Int) + 1) = ((i + 1 : Nat) : Int) := by rw [w64r (by omega) (by omega)]; omega
    rw [depotref09_remark.l0, if_pos (by omega), if_pos (by omega), bt_nat s i hi, e1, hn, remFrom]
    by_cases h9 : (by_ s i : Int) = 9
    · rw [if_pos h9]
      have : okB (by_ s i) = true := by unfold okB; rw [Bool.or_eq_true]; exact Or.inl (beq_iff_eq.2 (by omega))
      rw [this]; rfl
    · rw [if_neg h9]
      have h9' : (by_ s i == 9) = false := beq_eq_false_iff_ne.2 (by omega)
      unfold okB
      rw [h9', Bool.false_or]
      by_cases h1 : (by_ s i : Int) < 32
      · rw [if_pos h1, decide_eq_false (by omega)]; rfl
      · rw [if_neg h1]
        by_cases h2 : (by_ s i : Int) > 126
        · rw [if_pos h2, decide_eq_false (by omega)]; rfl
        · rw [if_neg h2, decide_eq_true (by omega)]; rfl
theorem refRemark_is (s : ByteArray) (hs : s.size ≤ 4398046511104) (k : Nat) (hk : s.size < k) : depotref09_remark.f k s = some (remF s) := by
  unfold depotref09_remark.f remF
  exact refRemark_l0 s hs s.size k 0 (by omega) (by omega) hk

set_option maxHeartbeats 4000000 in
set_option maxRecDepth 100000 in
theorem remark_walk (s : ByteArray) (w : World) (hs : s.size ≤ 4398046511104) :
    Calls Tryd.prog 40 #[.string s] w fun e w' => e = .returned (.bool (remF s)) ∧ Below w.heap.size w w' := by
  go_enter Tryd.func40, Tryd.ntmps40
  go_wp2
  go_loopw [] (fun w' => ∃ (pos : Nat), w' = w.iter s pos ∧ pos ≤ s.size ∧ Aside0 (remFrom s (s.size - pos) pos = remF s)) (fun w' => s.size - w'.iterPos w.heap.size)
  case atStart => exact ⟨0, rfl, by omega, ⟨rfl⟩⟩
  case round =>
    obtain ⟨pos, rfl, hle, hR⟩ := hrel
    have hbel : Below w.heap.size w (w.iter s pos) := (Below.refl w.heap.size w).alloc (Nat.le_refl _) _
    by_cases hp : pos < s.size
    · obtain ⟨d, hd⟩ : ∃ d, s.size - pos = d + 1 := ⟨s.size - pos - 1, by omega⟩
      have hr := hR.out
      rw [hd, remFrom] at hr
      rcases decode_parts s pos hp with ⟨h0, h1⟩ | ⟨h0, h1, n, h2, h3, h4⟩
      · have hnx : ∀ ty, (Instr.next (.pointer (some ⟨w.heap.size, 0, none⟩)) true ty).run Tryd.prog (w.iter s pos) = .ok (.tuple #[.bool true, .int .i64 pos, .int .i32 (by_ s pos)]) (w.iter s (pos + 1)) := fun ty => by
          have := run_next_any (P := Tryd.prog) w s pos ty hp
          rw [h1] at this
          exact this
        have HB := Aside0.mk hbel
        clear hbel
        by_cases h9 : (by_ s pos : Int) = 9
        · have ok : okB (by_ s pos) = true := by unfold okB; rw [Bool.or_eq_true]; exact Or.inl (beq_iff_eq.2 (by omega))
          rw [h9] at hnx
          go_wp2
          go_roundw
          case rel => exact ⟨pos + 1, rfl, by omega, ⟨by rw [show s.size - (pos + 1) = d by omega]; rw [ok, Bool.true_and] at hr; exact hr⟩⟩
          case measure => simp; omega
        · have n9 : ((by_ s pos : Int) == 9) = false := beq_eq_false_iff_ne.2 h9
          have n9' : ((by_ s pos : Int) != 9) = true := bne_iff_ne.2 h9
          have n9n : (by_ s pos == 9) = false := beq_eq_false_iff_ne.2 (by omega)
          by_cases h1 : (by_ s pos : Int) < 32
          · have ok : okB (by_ s pos) = false := by unfold okB; rw [n9n, Bool.false_or]; exact decide_eq_false (by omega)
            have d1 : decide ((by_ s pos : Int) < 32) = true := decide_eq_true h1
            clear h1 h9 n9n
            go_wp2
            go_ret
            rw [ok, Bool.false_and] at hr
            rw [← hr]
            exact ⟨rfl, (Below.refl w.heap.size w).alloc (Nat.le_refl _) _⟩
          · have d1 : decide ((by_ s pos : Int) < 32) = false := decide_eq_false h1
            by_cases h2 : (126 : Int) < (by_ s pos : Int)
            · have ok : okB (by_ s pos) = false := by unfold okB; rw [n9n, Bool.false_or]; exact decide_eq_false (by omega)
              have d2 : decide ((126 : Int) < (by_ s pos : Int)) = true := decide_eq_true h2
              clear h1 h2 h9 n9n
              go_wp2
              go_ret
              rw [ok, Bool.false_and] at hr
              rw [← hr]
              exact ⟨rfl, (Below.refl w.heap.size w).alloc (Nat.le_refl _) _⟩
            · have ok : okB (by_ s pos) = true := by unfold okB; rw [n9n, Bool.false_or]; exact decide_eq_true (by omega)
              have d2 : decide ((126 : Int) < (by_ s pos : Int)) = false := decide_eq_false h2
              clear h1 h2 h9 n9n
              go_wp2
              go_roundw
              case rel => exact ⟨pos + 1, rfl, by omega, ⟨by rw [show s.size - (pos + 1) = d by omega]; rw [ok, Bool.true_and] at hr; exact hr⟩⟩
              case measure => simp; omega
      · have ok : okB (by_ s pos) = false := by
          unfold okB
          rw [Bool.or_eq_false_iff]
          exact ⟨beq_eq_false_iff_ne.2 (by omega), decide_eq_false (by omega)⟩
        have HB := Aside0.mk hbel
        clear hbel
        obtain ⟨q, hq⟩ : ∃ q, (Utf8.decode s pos).1 = q := ⟨_, rfl⟩
        rw [hq] at h1
        have hnx : ∀ ty, (Instr.next (.pointer (some ⟨w.heap.size, 0, none⟩)) true ty).run Tryd.prog (w.iter s pos) = .ok (.tuple #[.bool true, .int .i64 pos, .int .i32 q]) (w.iter s (pos + (Utf8.decode s pos).2)) := fun ty => by
          have := run_next_any (P := Tryd.prog) w s pos ty hp
          rw [hq] at this
          exact this
        have HB2 := Aside0.mk (show Below w.heap.size w (w.iter s (pos + (Utf8.decode s pos).2)) from (Below.refl w.heap.size w).alloc (Nat.le_refl _) _)
        have n9 : ((q : Int) == 9) = false := beq_eq_false_iff_ne.2 (by omega)
        have n9' : ((q : Int) != 9) = true := bne_iff_ne.2 (by omega)
        have d1 : decide ((q : Int) < 32) = false := decide_eq_false (by omega)
        have d2 : decide ((126 : Int) < (q : Int)) = true := decide_eq_true (by omega)
        clear hq h2 h3 h4
        go_wp2
        go_ret
        rw [ok, Bool.false_and] at hr
        rw [← hr]
        exact ⟨rfl, HB2.out⟩
    · have hnx : ∀ ty, (Instr.next (.pointer (some ⟨w.heap.size, 0, none⟩)) true ty).run Tryd.prog (w.iter s pos) = _ := fun ty => run_next_end w s pos ty hp
      have HB := Aside0.mk hbel
      clear hbel
      go_wp2
      go_ret
      have hr := hR.out
      rw [show s.size - pos = 0 by omega, remFrom] at hr
      rw [← hr]
      exact ⟨rfl, HB.out⟩

/-- The literal function that Read hands to FieldsFunc. -/
theorem blank_walk (r : Nat) (w : World) : Calls Tryd.prog 42 #[.int .i32 r] w fun e w' => e = .returned (.bool (blankR r)) ∧ ∃ q, w' = w.drewN q := by
  by_cases h32 : (r : Int) = 32
  · have e : blankR r = true := by unfold blankR; rw [Bool.or_eq_true]; exact Or.inl (beq_iff_eq.2 (by omega))
    rw [h32, e]
    go_enter Tryd.func42, Tryd.ntmps42
    go_wp2
    go_ret
    exact ⟨rfl, 0, rfl⟩
  · have c1 : ((r : Int) == 32) = false := beq_eq_false_iff_ne.2 h32
    by_cases h9 : (r : Int) = 9
    · have e : blankR r = true := by unfold blankR; rw [Bool.or_eq_true]; exact Or.inr (beq_iff_eq.2 (by omega))
      rw [h9, e]
      go_enter Tryd.func42, Tryd.ntmps42
      go_wp2
      go_ret
      exact ⟨rfl, 0, rfl⟩
    · have c2 : ((r : Int) == 9) = false := beq_eq_false_iff_ne.2 h9
      have e : blankR r = false := by unfold blankR; rw [Bool.or_eq_false_iff]; exact ⟨beq_eq_false_iff_ne.2 (by omega), beq_eq_false_iff_ne.2 (by omega)⟩
      rw [e]
      clear h32 h9
      go_enter Tryd.func42, Tryd.ntmps42
      go_wp2
      go_ret
      exact ⟨by first | rfl | simp [*], 0, rfl⟩
end Go.Proofs.YtnaafhkenbnliaaDoor.R
