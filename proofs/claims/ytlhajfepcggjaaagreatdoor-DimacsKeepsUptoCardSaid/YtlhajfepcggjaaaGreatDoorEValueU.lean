/- What depot/depotref03.Value comes to: the number that a text in tens spells, cut at ten digits. No conditions. -/
import Derived.Test.YtlhajfepcggjaaaGreatDoorAtoiR
import Derived.Test.YtlhajfepcggjaaaGreatDoorRx0
set_option linter.unusedVariables false
set_option linter.unusedSimpArgs false
namespace Go.Proofs.YtlhajfepcggjaaaGreatDoor.R
open Go.RowKit Go.Proofs.YtlhajfepcggjaaaGreatDoorW.PrintWords Go.Proofs.YtlhajfepcggjaaaGreatDoorW.PrintLast Go.Proofs.YtlhajfepcggjaaaGreatDoorW.PrintMore

/-- Is the text too long for ten digits? -/
def longW (a : ByteArray) : Prop := 11 < a.size ∨ (10 < a.size ∧ bt a 0 ≠ 45)
instance (a : ByteArray) : Decidable (longW a) := by unfold longW; exact inferInstance
/-- What depot/depotref03.Value comes to. -/
def depotref03_Value.f (a0 : ByteArray) : Option Int := if a0.size ≤ 281474976710656 then (if longW a0 then some (if bt a0 0 = 45 then -10000000000 else 10000000000) else match Lib.atoiAll a0.data.toList with | .ok n => some n | _ => none) else none

set_option maxHeartbeats 4000000 in
set_option maxRecDepth 100000 in
theorem depotref03_Value.calls (a0 : ByteArray) (r : Int) (w : World) (hE : Env w) (h : depotref03_Value.f a0 = some r) :
  Calls Tryz.prog 49 #[.string a0] w fun e w' => e = .returned (.int .i64 r) ∧ Below w.heap.size w w' := by
 unfold depotref03_Value.f at h
 by_cases hs : a0.size ≤ 281474976710656
 ·rw [if_pos hs] at h
  have HE := Aside0.mk hE
  clear hE
  by_cases hl : longW a0
  ·rw [if_pos hl] at h
   have q : (0 < a0.size) = True := eq_true (by rcases hl with h | h <;> omega)
   have qi : (0 < (a0.size : Int)) = True := eq_true (by rcases hl with h | h <;> omega)
   have hx : ∀ h : 0 < a0.size, ((a0[0]'h).toNat : Int) = bt a0 0 := bt_at a0 0
   obtain rfl := Option.some.inj h
   clear h
   by_cases h11 : 11 < a0.size
   ·have g11 : (11 < (a0.size : Int)) = True := eq_true (by omega)
    clear hl
    by_cases h45 : bt a0 0 = 45
    ·rw [if_pos h45]
     go_enter Tryz.func49, Tryz.ntmps49
     go_wp2_with fail
     go_ret
     exact ⟨rfl, by repeat (first | exact Below.refl _ _ | apply Below.drew)⟩
    ·rw [if_neg h45]
     go_enter Tryz.func49, Tryz.ntmps49
     go_wp2_with fail
     go_ret
     exact ⟨rfl, by repeat (first | exact Below.refl _ _ | apply Below.drew)⟩
   ·have g11 : (11 < (a0.size : Int)) = False := eq_false (by omega)
    obtain ⟨h10, h45⟩ : 10 < a0.size ∧ bt a0 0 ≠ 45 := hl.resolve_left h11
    have g10 : (10 < (a0.size : Int)) = True := eq_true (by omega)
    rw [if_neg h45]
    go_enter Tryz.func49, Tryz.ntmps49
    go_wp2_with fail
    go_ret
    exact ⟨rfl, by repeat (first | exact Below.refl _ _ | apply Below.drew)⟩
  ·rw [if_neg hl] at h
   have h11 : a0.size ≤ 11 := by
    rcases Nat.lt_or_ge 11 a0.size with h | h
    ·exact absurd (Or.inl h) hl
    ·exact h
   have g11 : (11 < (a0.size : Int)) = False := eq_false (by omega)
   cases hn : Lib.atoiAll a0.data.toList with
   | ok n =>
    rw [hn] at h
    obtain rfl := Option.some.inj h
    clear h
    have fin : ∀ w1, Below w.heap.size w w1 → Calls Tryz.prog 69 #[.string a0] w1 fun e w' => e = .returned (.tuple #[.int .i64 n, .nilIface]) ∧ Below w1.heap.size w1 w' := fun w1 hb => by
     refine (atoi_any a0 hs w1 (HE.out.below hb)).mono ?_
     rintro e w' ⟨⟨n', h1, rfl⟩ | ⟨h1, _⟩, hb'⟩
     ·rw [hn] at h1
      cases h1
      exact ⟨rfl, hb'⟩
     ·exact absurd hn (h1 n)
    have FIN := Aside0.mk fin
    clear fin
    by_cases h10 : 10 < a0.size
    ·have g10 : (10 < (a0.size : Int)) = True := eq_true (by omega)
     have q : (0 < a0.size) = True := eq_true (by omega)
     have qi : (0 < (a0.size : Int)) = True := eq_true (by omega)
     have hx : ∀ h : 0 < a0.size, ((a0[0]'h).toNat : Int) = bt a0 0 := bt_at a0 0
     have h45 : bt a0 0 = 45 := by
      by_cases h : bt a0 0 = 45
      ·exact h
      ·exact absurd (Or.inr ⟨h10, h⟩) hl
     clear hl
     go_enter Tryz.func49, Tryz.ntmps49
     go_wp2_with fail
     refine (FIN.out _ (by repeat (first | exact Below.refl _ _ | apply Below.drew))).mono ?_
     rintro e w' ⟨rfl, hb⟩
     have HB := Aside0.mk hb
     clear hb
     go_wp2_with fail
     go_ret
     exact ⟨rfl, HB.out⟩
    ·have g10 : (10 < (a0.size : Int)) = False := eq_false (by omega)
     clear hl
     go_enter Tryz.func49, Tryz.ntmps49
     go_wp2_with fail
     refine (FIN.out _ (by repeat (first | exact Below.refl _ _ | apply Below.drew))).mono ?_
     rintro e w' ⟨rfl, hb⟩
     have HB := Aside0.mk hb
     clear hb
     go_wp2_with fail
     go_ret
     exact ⟨rfl, HB.out⟩
   | _ => rw [hn] at h; cases h
 ·rw [if_neg hs] at h
  cases h
end Go.Proofs.YtlhajfepcggjaaaGreatDoor.R
