/- Lean functions of the Go functions that the laws of this seat reach, and the proof that each call comes to them: written by a program of this session (wip/printx.sh) over the kit's print. No conditions. Lean functions of the Go functions that the laws of this seat reach, and the proof that each call comes to them: written by a program of this session (wip/printx.sh) over the kit's print. No conditions. Lean functions of the Go functions that the laws of this seat reach, and the proof that each call comes to them: written by a program of this session (wip/printx.sh) over the kit's print. No conditions. The reference's Trim, Letters and Fair: what they come to. No conditions. The reference's Trim, Letters and Fair: what they come to. No conditions. The reference's Trim, Letters and Fair: what they come to. No conditions. The reference's Trim, Letters and Fair: what they come to. No conditions. The reference's Trim, Letters and Fair: what they come to. No conditions. The reference's Pieces and value: what they come to. No conditions. -/
import Derived.Test.YtbaiglikmneicaaDoorProg
import Derived.Below
import Derived.Deep.Draws
import Derived.Deep.AppendLies
import Derived.Maps.AppendAt
import Derived.OwnWalk
import Derived.Laws.BytesArg
import Derived.Laws.MakeOwn
import Derived.Laws.OwnMore
import Derived.Deep.OwnRows
import Derived.Tactics
import Derived.Lib.ConvBytes
import Derived.Laws.Slices
import Derived.WalkKit
import Derived.KernelRfl
import Derived.RowKit3
import Derived.Deep.LoopGhost
import Derived.Deep.QuietTactic
import Derived.BigQuiet
import Derived.WideLaws
import Derived.Deep.DeepCutAuto
import Derived.Deep.CutBlock
import Derived.Deep.RegionHeld3
import Derived.Laws.Rows
import Derived.Lib.AppendStr
import Derived.ArgAppend
import Derived.Laws.IdiomCopy
import Derived.OrdersHeld
import Derived.Laws.BitsLemmas
import Derived.RowKit
import Derived.Test.YtbaiglikmneicaaDoorWK
import Derived.Test.YtbaiglikmneicaaDoorTrimC
import Derived.Test.YtbaiglikmneicaaDoorPx7
import Derived.Test.YtbaiglikmneicaaDoorEWriteC
section
namespace Go.Proofs.YtbaiglikmneicaaDoor.V
open Go.RowKit Go.Proofs.YtbaiglikmneicaaDoorW.PrintWords Go.Proofs.YtbaiglikmneicaaDoorW.PrintLast Go.Proofs.YtbaiglikmneicaaDoorW.PrintMore
attribute [local go_sem] max2_int min2_int max_two min_two max_three min_three max_four min_four   -- for this text's walks alone
set_option linter.unusedVariables false
set_option linter.unusedSimpArgs false

def errW : Option Int → Value
  | none => .nilIface
  | some c => .iface 0 (.int .i64 c)
theorem errW_none : errW none = .nilIface := rfl
theorem errW_some (c : Int) : errW (some c) = .iface 0 (.int .i64 c) := rfl

-- the values' own types

end Go.Proofs.YtbaiglikmneicaaDoor.V
end
section
namespace Go.Proofs.YtbaiglikmneicaaDoor.V
open Go.RowKit Go.Proofs.YtbaiglikmneicaaDoorW.PrintWords Go.Proofs.YtbaiglikmneicaaDoorW.PrintLast Go.Proofs.YtbaiglikmneicaaDoorW.PrintMore
attribute [local go_sem] max2_int min2_int max_two min_two max_three min_three max_four min_four   -- for this text's walks alone
set_option linter.unusedVariables false
set_option linter.unusedSimpArgs false

/-! ### depotref21_blank: function 58 -/
def depotref21_blank.f (a0 : Int) : Option (Bool) := if a0 = 32 then (some true) else (some (a0 == 9))
set_option maxHeartbeats 8000000 in
set_option maxRecDepth 100000 in
theorem depotref21_blank.calls (a0 : Int) (r : Bool) (w : World) (h : depotref21_blank.f a0 = some r) :
    Calls Tryd.prog 58 #[.int .u8 a0] w fun e w' => e = .returned (.bool r) ∧ Drawn0 w w' := by
  have H : (if a0 = 32 then (some true) else (some (a0 == 9))) = some r := h
  clear h
  by_cases c2 : a0 = 32
  · rw [if_pos c2] at H
    have c2b0 : (a0 == 32) = true := beq_iff_eq.mpr c2
    have c2b1 : (a0 != 32) = false := bne_eq_false_iff_eq.mpr c2
    clear c2
    obtain rfl := Option.some.inj H
    go_enter Tryd.func58, Tryd.ntmps58
    go_wp2
    go_ret
    exact ⟨by first | rfl | (simp; done) | (simp [*]; done), by repeat (first | exact Drawn0.refl _ | apply Drawn0.step)⟩
  · rw [if_neg c2] at H
    have c2b0 : (a0 == 32) = false := beq_eq_false_iff_ne.mpr c2
    have c2b1 : (a0 != 32) = true := bne_iff_ne.mpr c2
    obtain rfl := Option.some.inj H
    go_enter Tryd.func58, Tryd.ntmps58
    go_wp2
    go_ret
    exact ⟨by first | rfl | (simp; done) | (simp [*]; done), by repeat (first | exact Drawn0.refl _ | apply Drawn0.step)⟩

/-! ### depotref21_Trim: function 35 -/
mutual
def depotref21_Trim.j1 : Nat → ByteArray → Option (ByteArray)
  | 0, _ => none
  | k + 1, x0 => depotref21_Trim.l1 k x0
def depotref21_Trim.l1 : Nat → ByteArray → Option (ByteArray)
  | 0, _ => none
  | k + 1, x0 => if (x0.size : Int) > 0 then (if 0 ≤ (wrap64 ((x0.size : Int) - 1)) then (if (wrap64 ((x0.size : Int) - 1)) < (x0.size : Int) then ((depotref21_blank.f (bt x0 (wrap64 ((x0.size : Int) - 1)))).bind fun t102 => (if t102 = true then (if (wrap64 ((x0.size : Int) - 1)) ≤ (x0.size : Int) then (depotref21_Trim.l1 k (x0.extract 0 ((wrap64 ((x0.size : Int) - 1)) : Int).toNat)) else (none)) else (some x0))) else (none)) else (none)) else (some x0)
def depotref21_Trim.l0 : Nat → ByteArray → Option (ByteArray)
  | 0, _ => none
  | k + 1, x0 => if (x0.size : Int) > 0 then (if 0 < (x0.size : Int) then ((depotref21_blank.f (bt x0 0)).bind fun t101 => (if t101 = true then (if 1 ≤ (x0.size : Int) then (depotref21_Trim.l0 k (x0.extract 1 x0.size)) else (none)) else (depotref21_Trim.j1 k x0))) else (none)) else (depotref21_Trim.j1 k x0)
end
def depotref21_Trim.f (k : Nat) (a0 : ByteArray) : Option (ByteArray) := depotref21_Trim.l0 k a0
set_option maxHeartbeats 8000000 in
set_option maxRecDepth 100000 in
theorem depotref21_Trim.calls (k : Nat) (a0 : ByteArray) (r : ByteArray) (w : World) (h : depotref21_Trim.f k a0 = some r) :
    Calls Tryd.prog 35 #[.string a0] w fun e w' => e = .returned (.string r) ∧ Drawn0 w w' := by
  have H : (depotref21_Trim.l0 k a0) = some r := h
  clear h
  have HC2 := Aside0.mk H
  clear H
  go_enter Tryd.func35, Tryd.ntmps35
  go_upto_block 0 with (fail)
  go_cut [0] (fun v0 wc => ∃ (kq : Nat) (x0_1 : ByteArray), v0 = .string x0_1 ∧ Aside0 (depotref21_Trim.j1 kq x0_1 = some r) ∧ Aside0 (kq ≤ k) ∧ Drawn0 w wc)
  case first =>
    have H := HC2.out
    clear HC2
    have H' := Aside0.mk H
    clear H
    go_wp2
    go_loopg [0] k (fun kq v0 w' => ∃ (x0_1 : ByteArray), v0 = .string x0_1 ∧ Aside0 (depotref21_Trim.l0 kq x0_1 = some r) ∧ Aside0 (kq ≤ k) ∧ Drawn0 w w')
    case atStart => exact ⟨(a0), (by first | rfl | (simp; done) | (simp [*]; done)), H', ⟨Nat.le_refl _⟩, by repeat (first | exact Drawn0.refl _ | apply Drawn0.step)⟩
    case round =>
      clear H'
      try clear p2
      obtain ⟨x0_1, rfl, HA, HK1, ⟨m1, rfl⟩⟩ := hrel
      cases gk with
      | zero => exact absurd HA.out (by simp [depotref21_Trim.l0])
      | succ k1 =>
        have H := HA.out
        clear HA
        simp only [depotref21_Trim.l0] at H
        by_cases c3 : (x0_1.size : Int) > 0
        · rw [if_pos c3] at H
          have c3b0 : decide (0 < (x0_1.size : Int)) = true := decide_eq_true c3
          have c3b1 : decide (0 < x0_1.size) = true := decide_eq_true (by omega)
          clear c3
          (first | rw [c3b0] | (simp only [i64_w, i32_w]; rw [c3b0]) | skip)
          by_cases c4 : 0 < (x0_1.size : Int)
          · rw [if_pos c4] at H
            have c4b0 : decide (0 < (x0_1.size : Int)) = true := decide_eq_true c4
            have c4b1 : decide (0 < x0_1.size) = true := decide_eq_true (by omega)
            clear c4
            replace H := Option.bind_eq_some_iff.mp H
            obtain ⟨t101, A60, H⟩ := H
            replace H : (if t101 = true then (if 1 ≤ (x0_1.size : Int) then (depotref21_Trim.l0 k1 (x0_1.extract 1 x0_1.size)) else (none)) else (depotref21_Trim.j1 k1 x0_1)) = some r := H
            have A6 := Aside0.mk A60
            clear A60
            by_cases c7 : t101 = true
            · subst c7
              have H1 : (if 1 ≤ (x0_1.size : Int) then (depotref21_Trim.l0 k1 (x0_1.extract 1 x0_1.size)) else (none)) = some r := by rw [if_pos rfl] at H; exact H
              clear H
              have H := H1
              clear H1
              by_cases c8 : 1 ≤ (x0_1.size : Int)
              · rw [if_pos c8] at H
                have c8b0 := eq_true c8
                have c8b1 : decide (1 ≤ (x0_1.size : Int)) = true := decide_eq_true c8
                clear c8
                have H' := Aside0.mk H
                clear H
                have p5 : 0 ≤ (0 : Int) := (by omega)
                have q5 : 0 < x0_1.size := (by have : (0 : Int) < (x0_1.size : Int) := of_decide_eq_true (by first | (with_reducible assumption) | assumption); omega)
                have hx5 : ∀ h : 0 < x0_1.size, ((x0_1[0]'h).toNat : Int) = bt x0_1 0 := bt_at x0_1 0
                clear p5
                have qi5 : (0 < (x0_1.size : Int)) = True := eq_true (of_decide_eq_true (by first | (with_reducible assumption) | assumption))
                replace q5 := eq_true q5
                go_wp2_with (first | (go_at_call 58; (with_reducible refine (depotref21_blank.calls (bt x0_1 0) true _ A6.out).mono ?_); rintro e w' ⟨rfl, ⟨nd, rfl⟩⟩))
                go_roundg k1
                case measure => have := HK1.out; omega
                case rel => exact ⟨(x0_1.extract 1 x0_1.size), (by first | rfl | (simp; done) | (simp [*]; done)), H', ⟨by have := HK1.out; omega⟩, by repeat (first | exact Drawn0.refl _ | apply Drawn0.step)⟩
              · rw [if_neg c8] at H
                exact absurd H (by simp)
            · replace c7 := Bool.eq_false_iff.mpr c7
              subst c7
              have H1 : (depotref21_Trim.j1 k1 x0_1) = some r := by rw [if_neg (show ¬ (false = true) by decide)] at H; exact H
              clear H
              have H := H1
              clear H1
              have H' := Aside0.mk H
              clear H
              have p5 : 0 ≤ (0 : Int) := (by omega)
              have q5 : 0 < x0_1.size := (by have : (0 : Int) < (x0_1.size : Int) := of_decide_eq_true (by first | (with_reducible assumption) | assumption); omega)
              have hx5 : ∀ h : 0 < x0_1.size, ((x0_1[0]'h).toNat : Int) = bt x0_1 0 := bt_at x0_1 0
              clear p5
              have qi5 : (0 < (x0_1.size : Int)) = True := eq_true (of_decide_eq_true (by first | (with_reducible assumption) | assumption))
              replace q5 := eq_true q5
              go_wp2_with (first | (go_at_call 58; (with_reducible refine (depotref21_blank.calls (bt x0_1 0) false _ A6.out).mono ?_); rintro e w' ⟨rfl, ⟨nd, rfl⟩⟩))
              go_meet
              case rel => exact ⟨_, (x0_1), (by first | rfl | (simp; done) | (simp [*]; done)), H', ⟨by have := HK1.out; first | omega | exact Nat.le_refl _⟩, by repeat (first | exact Drawn0.refl _ | apply Drawn0.step)⟩
          · rw [if_neg c4] at H
            exact absurd H (by simp)
        · rw [if_neg c3] at H
          have c3b0 : decide (0 < (x0_1.size : Int)) = false := decide_eq_false c3
          have c3b1 : decide (0 < x0_1.size) = false := decide_eq_false (by omega)
          clear c3
          (first | rw [c3b0] | (simp only [i64_w, i32_w]; rw [c3b0]) | skip)
          have H' := Aside0.mk H
          clear H
          go_wp2
          go_meet
          case rel => exact ⟨_, (x0_1), (by first | rfl | (simp; done) | (simp [*]; done)), H', ⟨by have := HK1.out; first | omega | exact Nat.le_refl _⟩, by repeat (first | exact Drawn0.refl _ | apply Drawn0.step)⟩
  case rest =>
    clear HC2
    try clear p2
    try clear c3
    try clear c3b0
    try clear c3b1
    try clear c4
    try clear c4b0
    try clear c4b1
    try clear p5
    try clear q5
    try clear hx5
    try clear qi5
    try clear c7
    try clear c8
    try clear c8b0
    try clear c8b1
    try clear p2
    try clear p5
    try clear q5
    obtain ⟨kq, x0_1, rfl, HA, HJ1, ⟨mc1, rfl⟩⟩ := hcut
    cases kq with
    | zero => exact absurd HA.out (by simp [depotref21_Trim.j1])
    | succ kj1 =>
      have H := HA.out
      clear HA
      simp only [depotref21_Trim.j1] at H
      have H' := Aside0.mk H
      clear H
      go_wp2
      go_loopg [0] kj1 (fun kq v0 w' => ∃ (x0_2 : ByteArray), v0 = .string x0_2 ∧ Aside0 (depotref21_Trim.l1 kq x0_2 = some r) ∧ Aside0 (kq ≤ kj1) ∧ Drawn0 w w')
      case atStart => exact ⟨(x0_1), (by first | rfl | (simp; done) | (simp [*]; done)), H', ⟨Nat.le_refl _⟩, by repeat (first | exact Drawn0.refl _ | apply Drawn0.step)⟩
      case round =>
        clear H'
        try clear c1
        try clear p2
        try clear c3
        try clear c3b0
        try clear c3b1
        try clear c4
        try clear c4b0
        try clear c4b1
        try clear p5
        try clear q5
        try clear hx5
        try clear qi5
        try clear c7
        try clear c8
        try clear c8b0
        try clear c8b1
        try clear p2
        try clear p5
        try clear q5
        obtain ⟨x0_2, rfl, HA, HK2, ⟨m2, rfl⟩⟩ := hrel
        cases gk with
        | zero => exact absurd HA.out (by simp [depotref21_Trim.l1])
        | succ k2 =>
          have H := HA.out
          clear HA
          simp only [depotref21_Trim.l1] at H
          by_cases c9 : (x0_2.size : Int) > 0
          · rw [if_pos c9] at H
            have c9b0 : decide (0 < (x0_2.size : Int)) = true := decide_eq_true c9
            have c9b1 : decide (0 < x0_2.size) = true := decide_eq_true (by omega)
            clear c9
            obtain ⟨ji10, hji10⟩ : ∃ j_ : Int, (wrap64 ((x0_2.size : Int) - 1)) = j_ := ⟨_, rfl⟩
            replace H : (if 0 ≤ (ji10) then (if (ji10) < (x0_2.size : Int) then ((depotref21_blank.f (bt x0_2 (ji10))).bind fun t102 => (if t102 = true then (if (ji10) ≤ (x0_2.size : Int) then (depotref21_Trim.l1 k2 (x0_2.extract 0 ((ji10) : Int).toNat)) else (none)) else (some x0_2))) else (none)) else (none)) = some r := by first | (rw [hji10] at H; exact H) | (simp only [hji10] at H ⊢; exact H)
            have hji10w : (IntKind.i64.wrap ((x0_2.size : Int) - 1)) = ji10 := (i64_w _).trans hji10
            by_cases c11 : 0 ≤ (ji10)
            · rw [if_pos c11] at H
              have c11b0 : decide (0 ≤ (ji10)) = true := decide_eq_true c11
              clear c11
              by_cases c12 : (ji10) < (x0_2.size : Int)
              · rw [if_pos c12] at H
                have c12b0 : decide ((ji10) < (x0_2.size : Int)) = true := decide_eq_true c12
                clear c12
                replace H := Option.bind_eq_some_iff.mp H
                obtain ⟨t102, A140, H⟩ := H
                replace H : (if t102 = true then (if (ji10) ≤ (x0_2.size : Int) then (depotref21_Trim.l1 k2 (x0_2.extract 0 ((ji10) : Int).toNat)) else (none)) else (some x0_2)) = some r := H
                have A14 := Aside0.mk A140
                clear A140
                by_cases c15 : t102 = true
                · subst c15
                  have H1 : (if (ji10) ≤ (x0_2.size : Int) then (depotref21_Trim.l1 k2 (x0_2.extract 0 ((ji10) : Int).toNat)) else (none)) = some r := by rw [if_pos rfl] at H; exact H
                  clear H
                  have H := H1
                  clear H1
                  have c16b0 := eq_true (of_decide_eq_true (by first | (with_reducible assumption) | assumption) : 0 ≤ (ji10))
                  by_cases c17 : (ji10) ≤ (x0_2.size : Int)
                  · rw [if_pos c17] at H
                    have c17b0 := eq_true c17
                    have c17b1 : decide ((ji10) ≤ (x0_2.size : Int)) = true := decide_eq_true c17
                    clear c17
                    have H' := Aside0.mk H
                    clear H
                    have p13 : 0 ≤ ((ji10) : Int) := of_decide_eq_true (by first | (with_reducible assumption) | assumption)
                    have q13 : (ji10) < (x0_2.size : Int) := of_decide_eq_true (by first | (with_reducible assumption) | assumption)
                    have hx13 := bt_at x0_2 (ji10)
                    replace p13 := eq_true p13
                    replace q13 := eq_true q13
                    go_wp2_with (first | (go_at_call 58; (with_reducible refine (depotref21_blank.calls (bt x0_2 (ji10)) true _ A14.out).mono ?_); rintro e w' ⟨rfl, ⟨nd, rfl⟩⟩))
                    go_roundg k2
                    case measure => have := HJ1.out; have := HK2.out; omega
                    case rel => exact ⟨(x0_2.extract 0 ((ji10) : Int).toNat), (by first | rfl | (simp; done) | (simp only [← hji10] <;> (first | rfl | simp)) | (simp [*]; done)), H', ⟨by have := HJ1.out; have := HK2.out; omega⟩, by repeat (first | exact Drawn0.refl _ | apply Drawn0.step)⟩
                  · rw [if_neg c17] at H
                    exact absurd H (by simp)
                · replace c15 := Bool.eq_false_iff.mpr c15
                  subst c15
                  have H1 : (some x0_2) = some r := by rw [if_neg (show ¬ (false = true) by decide)] at H; exact H
                  clear H
                  have H := H1
                  clear H1
                  obtain rfl := Option.some.inj H
                  have p13 : 0 ≤ ((ji10) : Int) := of_decide_eq_true (by first | (with_reducible assumption) | assumption)
                  have q13 : (ji10) < (x0_2.size : Int) := of_decide_eq_true (by first | (with_reducible assumption) | assumption)
                  have hx13 := bt_at x0_2 (ji10)
                  replace p13 := eq_true p13
                  replace q13 := eq_true q13
                  go_wp2_with (first | (go_at_call 58; (with_reducible refine (depotref21_blank.calls (bt x0_2 (ji10)) false _ A14.out).mono ?_); rintro e w' ⟨rfl, ⟨nd, rfl⟩⟩))
                  go_ret
                  exact ⟨by first | rfl | (simp; done) | (simp only [← hji10] <;> (first | rfl | simp)) | (simp [*]; done), by repeat (first | exact Drawn0.refl _ | apply Drawn0.step)⟩
              · rw [if_neg c12] at H
                exact absurd H (by simp)
            · rw [if_neg c11] at H
              exact absurd H (by simp)
          · rw [if_neg c9] at H
            have c9b0 : decide (0 < (x0_2.size : Int)) = false := decide_eq_false c9
            have c9b1 : decide (0 < x0_2.size) = false := decide_eq_false (by omega)
            clear c9
            obtain rfl := Option.some.inj H
            go_wp2
            go_ret
            exact ⟨by first | rfl | (simp; done) | (simp [*]; done), by repeat (first | exact Drawn0.refl _ | apply Drawn0.step)⟩

/-! ### depotref21_more: function 70 -/
mutual
def depotref21_more.j0 : Nat → Int → Bool → Option (Int × Int × Int)
  | 0, _, _ => none
  | k + 1, x0, x8 => if x8 = true then (some (1, 128, 191)) else (if x0 = 224 then (some (2, 160, 191)) else (if x0 = 237 then (some (2, 128, 159)) else (if x0 ≥ 225 then (depotref21_more.j1 k x0 (decide (x0 ≤ 239))) else (depotref21_more.j1 k x0 false))))
def depotref21_more.j1 : Nat → Int → Bool → Option (Int × Int × Int)
  | 0, _, _ => none
  | k + 1, x0, x21 => if x21 = true then (some (2, 128, 191)) else (if x0 = 240 then (some (3, 144, 191)) else (if x0 ≥ 241 then (depotref21_more.j2 k x0 (decide (x0 ≤ 243))) else (depotref21_more.j2 k x0 false)))
def depotref21_more.j2 : Nat → Int → Bool → Option (Int × Int × Int)
  | 0, _, _ => none
  | k + 1, x0, x31 => if x31 = true then (some (3, 128, 191)) else (if x0 = 244 then (some (3, 128, 143)) else (some ((-1), 0, 0)))
end
def depotref21_more.f (k : Nat) (a0 : Int) : Option (Int × Int × Int) := if a0 < 128 then (some (0, 0, 0)) else (if a0 ≥ 194 then (depotref21_more.j0 k a0 (decide (a0 ≤ 223))) else (depotref21_more.j0 k a0 false))
set_option maxHeartbeats 8000000 in
set_option maxRecDepth 100000 in
theorem depotref21_more.calls (k : Nat) (a0 : Int) (r1 : Int) (r2 : Int) (r3 : Int) (w : World) (h : depotref21_more.f k a0 = some (r1, r2, r3)) :
    Calls Tryd.prog 70 #[.int .u8 a0] w fun e w' => e = .returned (.tuple #[.int .i64 r1, .int .u8 r2, .int .u8 r3]) ∧ Drawn0 w w' := by
  have H : (if a0 < 128 then (some (0, 0, 0)) else (if a0 ≥ 194 then (depotref21_more.j0 k a0 (decide (a0 ≤ 223))) else (depotref21_more.j0 k a0 false))) = some (r1, r2, r3) := h
  clear h
  by_cases c2 : a0 < 128
  · rw [if_pos c2] at H
    have c2b0 : decide (a0 < 128) = true := decide_eq_true c2
    clear c2
    simp only [Option.some.injEq, Prod.mk.injEq] at H
    obtain ⟨rfl, rfl, rfl⟩ := H
    go_enter Tryd.func70, Tryd.ntmps70
    go_wp2
    go_ret3
    exact ⟨by first | rfl | (simp; done) | (simp [*]; done), by repeat (first | exact Drawn0.refl _ | apply Drawn0.step)⟩
  · rw [if_neg c2] at H
    have c2b0 : decide (a0 < 128) = false := decide_eq_false c2
    clear c2
    have HC3 := Aside0.mk H
    clear H
    go_enter Tryd.func70, Tryd.ntmps70
    go_upto_region 3 with (fail)
    go_cut [8] (fun v8 wc => ∃ (kq : Nat) (x8_2 : Bool), v8 = .bool x8_2 ∧ Aside0 (depotref21_more.j0 kq a0 x8_2 = some (r1, r2, r3)) ∧ Aside0 (kq ≤ k) ∧ Drawn0 w wc)
    case first =>
      have H := HC3.out
      clear HC3
      by_cases c4 : a0 ≥ 194
      · rw [if_pos c4] at H
        have c4b0 : decide (194 ≤ a0) = true := decide_eq_true c4
        clear c4
        (first | rw [c4b0] | (simp only [i64_w, i32_w]; rw [c4b0]) | skip)
        have H' := Aside0.mk H
        clear H
        go_wp2
        go_meet
        case rel => exact ⟨_, (decide (a0 ≤ 223)), (by first | rfl | (simp; done) | (simp [*]; done)), H', ⟨by first | omega | exact Nat.le_refl _⟩, by repeat (first | exact Drawn0.refl _ | apply Drawn0.step)⟩
      · rw [if_neg c4] at H
        have c4b0 : decide (194 ≤ a0) = false := decide_eq_false c4
        clear c4
        (first | rw [c4b0] | (simp only [i64_w, i32_w]; rw [c4b0]) | skip)
        have H' := Aside0.mk H
        clear H
        go_wp2
        go_meet
        case rel => exact ⟨_, (false), (by first | rfl | (simp; done) | (simp [*]; done)), H', ⟨by first | omega | exact Nat.le_refl _⟩, by repeat (first | exact Drawn0.refl _ | apply Drawn0.step)⟩
    case rest =>
      clear HC3
      try clear c2
      try clear c2b0
      try clear p2
      try clear c4
      try clear c4b0
      obtain ⟨kq, x8_2, rfl, HA, HJ2, ⟨mc2, rfl⟩⟩ := hcut
      cases kq with
      | zero => exact absurd HA.out (by simp [depotref21_more.j0])
      | succ kj2 =>
        have H := HA.out
        clear HA
        simp only [depotref21_more.j0] at H
        by_cases c5 : x8_2 = true
        · subst c5
          have H1 : (some (1, 128, 191)) = some (r1, r2, r3) := by rw [if_pos rfl] at H; exact H
          clear H
          have H := H1
          clear H1
          simp only [Option.some.injEq, Prod.mk.injEq] at H
          obtain ⟨rfl, rfl, rfl⟩ := H
          go_wp2
          go_ret3
          exact ⟨by first | rfl | (simp; done) | (simp [*]; done), by repeat (first | exact Drawn0.refl _ | apply Drawn0.step)⟩
        · replace c5 := Bool.eq_false_iff.mpr c5
          subst c5
          have H1 : (if a0 = 224 then (some (2, 160, 191)) else (if a0 = 237 then (some (2, 128, 159)) else (if a0 ≥ 225 then (depotref21_more.j1 kj2 a0 (decide (a0 ≤ 239))) else (depotref21_more.j1 kj2 a0 false)))) = some (r1, r2, r3) := by rw [if_neg (show ¬ (false = true) by decide)] at H; exact H
          clear H
          have H := H1
          clear H1
          by_cases c6 : a0 = 224
          · rw [if_pos c6] at H
            have c6b0 : (a0 == 224) = true := beq_iff_eq.mpr c6
            have c6b1 : (a0 != 224) = false := bne_eq_false_iff_eq.mpr c6
            clear c6
            simp only [Option.some.injEq, Prod.mk.injEq] at H
            obtain ⟨rfl, rfl, rfl⟩ := H
            go_wp2
            go_ret3
            exact ⟨by first | rfl | (simp; done) | (simp [*]; done), by repeat (first | exact Drawn0.refl _ | apply Drawn0.step)⟩
          · rw [if_neg c6] at H
            have c6b0 : (a0 == 224) = false := beq_eq_false_iff_ne.mpr c6
            have c6b1 : (a0 != 224) = true := bne_iff_ne.mpr c6
            by_cases c7 : a0 = 237
            · rw [if_pos c7] at H
              have c7b0 : (a0 == 237) = true := beq_iff_eq.mpr c7
              have c7b1 : (a0 != 237) = false := bne_eq_false_iff_eq.mpr c7
              clear c7
              simp only [Option.some.injEq, Prod.mk.injEq] at H
              obtain ⟨rfl, rfl, rfl⟩ := H
              go_wp2
              go_ret3
              exact ⟨by first | rfl | (simp; done) | (simp [*]; done), by repeat (first | exact Drawn0.refl _ | apply Drawn0.step)⟩
            · rw [if_neg c7] at H
              have c7b0 : (a0 == 237) = false := beq_eq_false_iff_ne.mpr c7
              have c7b1 : (a0 != 237) = true := bne_iff_ne.mpr c7
              have HC8 := Aside0.mk H
              clear H
              go_upto_region 9 with (fail)
              go_cut [21] (fun v21 wc => ∃ (kq : Nat) (x21_7 : Bool), v21 = .bool x21_7 ∧ Aside0 (depotref21_more.j1 kq a0 x21_7 = some (r1, r2, r3)) ∧ Aside0 (kq ≤ kj2) ∧ Drawn0 w wc)
              case first =>
                have H := HC8.out
                clear HC8
                by_cases c9 : a0 ≥ 225
                · rw [if_pos c9] at H
                  have c9b0 : decide (225 ≤ a0) = true := decide_eq_true c9
                  clear c9
                  (first | rw [c9b0] | (simp only [i64_w, i32_w]; rw [c9b0]) | skip)
                  have H' := Aside0.mk H
                  clear H
                  go_wp2
                  go_meet
                  case rel => exact ⟨_, (decide (a0 ≤ 239)), (by first | rfl | (simp; done) | (simp [*]; done)), H', ⟨by have := HJ2.out; first | omega | exact Nat.le_refl _⟩, by repeat (first | exact Drawn0.refl _ | apply Drawn0.step)⟩
                · rw [if_neg c9] at H
                  have c9b0 : decide (225 ≤ a0) = false := decide_eq_false c9
                  clear c9
                  (first | rw [c9b0] | (simp only [i64_w, i32_w]; rw [c9b0]) | skip)
                  have H' := Aside0.mk H
                  clear H
                  go_wp2
                  go_meet
                  case rel => exact ⟨_, (false), (by first | rfl | (simp; done) | (simp [*]; done)), H', ⟨by have := HJ2.out; first | omega | exact Nat.le_refl _⟩, by repeat (first | exact Drawn0.refl _ | apply Drawn0.step)⟩
              case rest =>
                clear HC8
                try clear c2
                try clear c2b0
                try clear p2
                try clear c4
                try clear c4b0
                try clear c5
                try clear c6
                try clear c6b0
                try clear c6b1
                try clear c7
                try clear c7b0
                try clear c7b1
                try clear c9
                try clear c9b0
                try clear p2
                obtain ⟨kq, x21_7, rfl, HA, HJ7, ⟨mc7, rfl⟩⟩ := hcut
                cases kq with
                | zero => exact absurd HA.out (by simp [depotref21_more.j1])
                | succ kj7 =>
                  have H := HA.out
                  clear HA
                  simp only [depotref21_more.j1] at H
                  by_cases c10 : x21_7 = true
                  · subst c10
                    have H1 : (some (2, 128, 191)) = some (r1, r2, r3) := by rw [if_pos rfl] at H; exact H
                    clear H
                    have H := H1
                    clear H1
                    simp only [Option.some.injEq, Prod.mk.injEq] at H
                    obtain ⟨rfl, rfl, rfl⟩ := H
                    go_wp2
                    go_ret3
                    exact ⟨by first | rfl | (simp; done) | (simp [*]; done), by repeat (first | exact Drawn0.refl _ | apply Drawn0.step)⟩
                  · replace c10 := Bool.eq_false_iff.mpr c10
                    subst c10
                    have H1 : (if a0 = 240 then (some (3, 144, 191)) else (if a0 ≥ 241 then (depotref21_more.j2 kj7 a0 (decide (a0 ≤ 243))) else (depotref21_more.j2 kj7 a0 false))) = some (r1, r2, r3) := by rw [if_neg (show ¬ (false = true) by decide)] at H; exact H
                    clear H
                    have H := H1
                    clear H1
                    by_cases c11 : a0 = 240
                    · rw [if_pos c11] at H
                      have c11b0 : (a0 == 240) = true := beq_iff_eq.mpr c11
                      have c11b1 : (a0 != 240) = false := bne_eq_false_iff_eq.mpr c11
                      clear c11
                      simp only [Option.some.injEq, Prod.mk.injEq] at H
                      obtain ⟨rfl, rfl, rfl⟩ := H
                      go_wp2
                      go_ret3
                      exact ⟨by first | rfl | (simp; done) | (simp [*]; done), by repeat (first | exact Drawn0.refl _ | apply Drawn0.step)⟩
                    · rw [if_neg c11] at H
                      have c11b0 : (a0 == 240) = false := beq_eq_false_iff_ne.mpr c11
                      have c11b1 : (a0 != 240) = true := bne_iff_ne.mpr c11
                      have HC12 := Aside0.mk H
                      clear H
                      go_upto_region 13 with (fail)
                      go_cut [31] (fun v31 wc => ∃ (kq : Nat) (x31_11 : Bool), v31 = .bool x31_11 ∧ Aside0 (depotref21_more.j2 kq a0 x31_11 = some (r1, r2, r3)) ∧ Aside0 (kq ≤ kj7) ∧ Drawn0 w wc)
                      case first =>
                        have H := HC12.out
                        clear HC12
                        by_cases c13 : a0 ≥ 241
                        · rw [if_pos c13] at H
                          have c13b0 : decide (241 ≤ a0) = true := decide_eq_true c13
                          clear c13
                          (first | rw [c13b0] | (simp only [i64_w, i32_w]; rw [c13b0]) | skip)
                          have H' := Aside0.mk H
                          clear H
                          go_wp2
                          go_meet
                          case rel => exact ⟨_, (decide (a0 ≤ 243)), (by first | rfl | (simp; done) | (simp [*]; done)), H', ⟨by have := HJ2.out; have := HJ7.out; first | omega | exact Nat.le_refl _⟩, by repeat (first | exact Drawn0.refl _ | apply Drawn0.step)⟩
                        · rw [if_neg c13] at H
                          have c13b0 : decide (241 ≤ a0) = false := decide_eq_false c13
                          clear c13
                          (first | rw [c13b0] | (simp only [i64_w, i32_w]; rw [c13b0]) | skip)
                          have H' := Aside0.mk H
                          clear H
                          go_wp2
                          go_meet
                          case rel => exact ⟨_, (false), (by first | rfl | (simp; done) | (simp [*]; done)), H', ⟨by have := HJ2.out; have := HJ7.out; first | omega | exact Nat.le_refl _⟩, by repeat (first | exact Drawn0.refl _ | apply Drawn0.step)⟩
                      case rest =>
                        clear HC12
                        try clear c1
                        try clear c2
                        try clear c2b0
                        try clear p2
                        try clear c4
                        try clear c4b0
                        try clear c5
                        try clear c6
                        try clear c6b0
                        try clear c6b1
                        try clear c7
                        try clear c7b0
                        try clear c7b1
                        try clear c9
                        try clear c9b0
                        try clear c10
                        try clear c11
                        try clear c11b0
                        try clear c11b1
                        try clear c13
                        try clear c13b0
                        try clear p2
                        obtain ⟨kq, x31_11, rfl, HA, HJ11, ⟨mc11, rfl⟩⟩ := hcut
                        cases kq with
                        | zero => exact absurd HA.out (by simp [depotref21_more.j2])
                        | succ kj11 =>
                          have H := HA.out
                          clear HA
                          simp only [depotref21_more.j2] at H
                          by_cases c14 : x31_11 = true
                          · subst c14
                            have H1 : (some (3, 128, 191)) = some (r1, r2, r3) := by rw [if_pos rfl] at H; exact H
                            clear H
                            have H := H1
                            clear H1
                            simp only [Option.some.injEq, Prod.mk.injEq] at H
                            obtain ⟨rfl, rfl, rfl⟩ := H
                            go_wp2
                            go_ret3
                            exact ⟨by first | rfl | (simp; done) | (simp [*]; done), by repeat (first | exact Drawn0.refl _ | apply Drawn0.step)⟩
                          · replace c14 := Bool.eq_false_iff.mpr c14
                            subst c14
                            have H1 : (if a0 = 244 then (some (3, 128, 143)) else (some ((-1), 0, 0))) = some (r1, r2, r3) := by rw [if_neg (show ¬ (false = true) by decide)] at H; exact H
                            clear H
                            have H := H1
                            clear H1
                            by_cases c15 : a0 = 244
                            · rw [if_pos c15] at H
                              have c15b0 : (a0 == 244) = true := beq_iff_eq.mpr c15
                              have c15b1 : (a0 != 244) = false := bne_eq_false_iff_eq.mpr c15
                              clear c15
                              simp only [Option.some.injEq, Prod.mk.injEq] at H
                              obtain ⟨rfl, rfl, rfl⟩ := H
                              go_wp2
                              go_ret3
                              exact ⟨by first | rfl | (simp; done) | (simp [*]; done), by repeat (first | exact Drawn0.refl _ | apply Drawn0.step)⟩
                            · rw [if_neg c15] at H
                              have c15b0 : (a0 == 244) = false := beq_eq_false_iff_ne.mpr c15
                              have c15b1 : (a0 != 244) = true := bne_iff_ne.mpr c15
                              simp only [Option.some.injEq, Prod.mk.injEq] at H
                              obtain ⟨rfl, rfl, rfl⟩ := H
                              go_wp2
                              go_ret3
                              exact ⟨by first | rfl | (simp; done) | (simp [*]; done), by repeat (first | exact Drawn0.refl _ | apply Drawn0.step)⟩

end Go.Proofs.YtbaiglikmneicaaDoor.V
end
section
namespace Go.Proofs.YtbaiglikmneicaaDoor.V
open Go.RowKit Go.Proofs.YtbaiglikmneicaaDoorW.PrintWords Go.Proofs.YtbaiglikmneicaaDoorW.PrintLast Go.Proofs.YtbaiglikmneicaaDoorW.PrintMore
attribute [local go_sem] max2_int min2_int max_two min_two max_three min_three max_four min_four   -- for this text's walks alone
set_option linter.unusedVariables false
set_option linter.unusedSimpArgs false

/-! ### depotref21_Letters: function 57 -/
mutual
def depotref21_Letters.l0 : Nat → ByteArray → Int → Option (Bool)
  | 0, _, _ => none
  | k + 1, x0, x3 => if x3 < (x0.size : Int) then (if 0 ≤ x3 then ((depotref21_more.f k (bt x0 x3)).bind fun bt103 => (if bt103.1 < 0 then (depotref21_Letters.j1 k x0 x3 bt103.1 bt103.2.1 bt103.2.2 true) else (depotref21_Letters.j1 k x0 x3 bt103.1 bt103.2.1 bt103.2.2 (decide ((wrap64 (x3 + bt103.1)) ≥ (x0.size : Int)))))) else (none)) else (some true)
def depotref21_Letters.j1 : Nat → ByteArray → Int → Int → Int → Int → Bool → Option (Bool)
  | 0, _, _, _, _, _, _ => none
  | k + 1, x0, x3, x4, x5, x6, x30 => if x30 = true then (some false) else (depotref21_Letters.l1 k x0 x3 x4 x5 x6 1)
def depotref21_Letters.l1 : Nat → ByteArray → Int → Int → Int → Int → Int → Option (Bool)
  | 0, _, _, _, _, _, _ => none
  | k + 1, x0, x3, x4, x5, x6, x7 => if x7 ≤ x4 then (if 0 ≤ (wrap64 (x3 + x7)) then (if (wrap64 (x3 + x7)) < (x0.size : Int) then (if (bt x0 (wrap64 (x3 + x7))) < 128 then (some false) else (if (bt x0 (wrap64 (x3 + x7))) > 191 then (some false) else (if x7 = 1 then (if (bt x0 (wrap64 (x3 + x7))) < x5 then (some false) else (if (bt x0 (wrap64 (x3 + x7))) > x6 then (some false) else (depotref21_Letters.l1 k x0 x3 x4 x5 x6 (wrap64 (x7 + 1))))) else (depotref21_Letters.l1 k x0 x3 x4 x5 x6 (wrap64 (x7 + 1)))))) else (none)) else (none)) else (depotref21_Letters.l0 k x0 (wrap64 ((wrap64 (x3 + x4)) + 1)))
end
def depotref21_Letters.f (k : Nat) (a0 : ByteArray) : Option (Bool) := depotref21_Letters.l0 k a0 0
set_option maxHeartbeats 8000000 in
set_option maxRecDepth 100000 in
theorem depotref21_Letters.calls (k : Nat) (a0 : ByteArray) (r : Bool) (w : World) (h : depotref21_Letters.f k a0 = some r) :
    Calls Tryd.prog 57 #[.string a0] w fun e w' => e = .returned (.bool r) ∧ Drawn0 w w' := by
  have H : (depotref21_Letters.l0 k a0 0) = some r := h
  clear h
  have H' := Aside0.mk H
  clear H
  go_enter Tryd.func57, Tryd.ntmps57
  go_wp2
  go_loopg [3] k (fun kq v3 w' => ∃ (x3_1 : Int), v3 = .int .i64 x3_1 ∧ Aside0 (depotref21_Letters.l0 kq a0 x3_1 = some r) ∧ Aside0 (kq ≤ k) ∧ Drawn0 w w')
  case atStart => exact ⟨(0), (by first | rfl | (simp; done) | (simp [*]; done)), H', ⟨Nat.le_refl _⟩, by repeat (first | exact Drawn0.refl _ | apply Drawn0.step)⟩
  case round =>
    clear H'
    obtain ⟨x3_1, rfl, HA, HK1, ⟨m1, rfl⟩⟩ := hrel
    cases gk with
    | zero => exact absurd HA.out (by simp [depotref21_Letters.l0])
    | succ k1 =>
      have H := HA.out
      clear HA
      simp only [depotref21_Letters.l0] at H
      by_cases c2 : x3_1 < (a0.size : Int)
      · rw [if_pos c2] at H
        have c2b0 : decide (x3_1 < (a0.size : Int)) = true := decide_eq_true c2
        clear c2
        by_cases c3 : 0 ≤ x3_1
        · rw [if_pos c3] at H
          have c3b0 : decide (0 ≤ x3_1) = true := decide_eq_true c3
          clear c3
          replace H := Option.bind_eq_some_iff.mp H
          obtain ⟨⟨t103, t104, t105⟩, A50, H⟩ := H
          replace H : (if t103 < 0 then (depotref21_Letters.j1 k1 a0 x3_1 t103 t104 t105 true) else (depotref21_Letters.j1 k1 a0 x3_1 t103 t104 t105 (decide ((wrap64 (x3_1 + t103)) ≥ (a0.size : Int))))) = some r := H
          have A5 := Aside0.mk A50
          clear A50
          have HC6 := Aside0.mk H
          clear H
          have p4 : 0 ≤ (x3_1 : Int) := of_decide_eq_true (by first | (with_reducible assumption) | assumption)
          have q4 : x3_1 < (a0.size : Int) := of_decide_eq_true (by first | (with_reducible assumption) | assumption)
          have hx4 := bt_at a0 x3_1
          replace p4 := eq_true p4
          replace q4 := eq_true q4
          go_upto_region 4 with (first | ((with_reducible refine gate_callee (f := 70) rfl ?_); refine goesL_ (some 17) rfl rfl Tryd.func70 (by kernel_rfl) rfl #[.int .u8 (bt a0 x3_1)] rfl (by (try simp only [List.map_toArray, List.map_cons, List.map_nil]); first | done | rfl | (simp only [List.length_drop, List.length_take]; rfl)) ?_; (with_reducible refine (depotref21_more.calls k1 (bt a0 x3_1) t103 t104 t105 _ A5.out).mono ?_); rintro e w' ⟨rfl, ⟨nd, rfl⟩⟩; refine ⟨_, rfl, ?_⟩))
          (try simp only [Act.put, List.setIfInBounds_toArray, List.set_cons_zero, List.set_cons_succ])
          go_cut [30] (fun v30 wc => ∃ (kq : Nat) (x30_5 : Bool), v30 = .bool x30_5 ∧ Aside0 (depotref21_Letters.j1 kq a0 x3_1 t103 t104 t105 x30_5 = some r) ∧ Aside0 (kq ≤ k1) ∧ Drawn0 w wc)
          case first =>
            have H := HC6.out
            clear HC6
            by_cases c7 : t103 < 0
            · rw [if_pos c7] at H
              have c7b0 : decide (t103 < 0) = true := decide_eq_true c7
              clear c7
              (first | rw [c7b0] | (simp only [i64_w, i32_w]; rw [c7b0]) | skip)
              have H' := Aside0.mk H
              clear H
              go_wp2
              go_meet
              case rel => exact ⟨_, (true), (by first | rfl | (simp; done) | (simp [*]; done)), H', ⟨by have := HK1.out; first | omega | exact Nat.le_refl _⟩, by repeat (first | exact Drawn0.refl _ | apply Drawn0.step)⟩
            · rw [if_neg c7] at H
              have c7b0 : decide (t103 < 0) = false := decide_eq_false c7
              clear c7
              (first | rw [c7b0] | (simp only [i64_w, i32_w]; rw [c7b0]) | skip)
              have H' := Aside0.mk H
              clear H
              go_wp2
              go_meet
              case rel => exact ⟨_, (decide ((wrap64 (x3_1 + t103)) ≥ (a0.size : Int))), (by first | rfl | (simp; done) | (simp [*]; done)), H', ⟨by have := HK1.out; first | omega | exact Nat.le_refl _⟩, by repeat (first | exact Drawn0.refl _ | apply Drawn0.step)⟩
          case rest =>
            clear HC6
            try clear c2
            try clear c2b0
            try clear p2
            try clear c3
            try clear c3b0
            try clear p4
            try clear q4
            try clear hx4
            try clear c5
            try clear p6
            try clear c7
            try clear c7b0
            try clear p4
            try clear q4
            obtain ⟨kq, x30_5, rfl, HA, HJ5, ⟨mc5, rfl⟩⟩ := hcut
            cases kq with
            | zero => exact absurd HA.out (by simp [depotref21_Letters.j1])
            | succ kj5 =>
              have H := HA.out
              clear HA
              simp only [depotref21_Letters.j1] at H
              by_cases c8 : x30_5 = true
              · subst c8
                have H1 : (some false) = some r := by rw [if_pos rfl] at H; exact H
                clear H
                have H := H1
                clear H1
                obtain rfl := Option.some.inj H
                go_wp2
                go_ret
                exact ⟨by first | rfl | (simp; done) | (simp [*]; done), by repeat (first | exact Drawn0.refl _ | apply Drawn0.step)⟩
              · replace c8 := Bool.eq_false_iff.mpr c8
                subst c8
                have H1 : (depotref21_Letters.l1 kj5 a0 x3_1 t103 t104 t105 1) = some r := by rw [if_neg (show ¬ (false = true) by decide)] at H; exact H
                clear H
                have H := H1
                clear H1
                have H' := Aside0.mk H
                clear H
                go_wp2
                go_loopg [7] kj5 (fun kq v7 w' => ∃ (x7_3 : Int), v7 = .int .i64 x7_3 ∧ Aside0 (depotref21_Letters.l1 kq a0 x3_1 t103 t104 t105 x7_3 = some r) ∧ Aside0 (kq ≤ kj5) ∧ Drawn0 w w')
                case atStart => exact ⟨(1), (by first | rfl | (simp; done) | (simp [*]; done)), H', ⟨Nat.le_refl _⟩, by repeat (first | exact Drawn0.refl _ | apply Drawn0.step)⟩
                case round =>
                  clear H'
                  try clear c2
                  try clear c2b0
                  try clear p2
                  try clear c3
                  try clear c3b0
                  try clear p4
                  try clear q4
                  try clear hx4
                  try clear c5
                  try clear p6
                  try clear c7
                  try clear c7b0
                  try clear c8
                  try clear p2
                  try clear p4
                  try clear p6
                  try clear q4
                  obtain ⟨x7_3, rfl, HA, HK3, ⟨m3, rfl⟩⟩ := hrel
                  cases gk with
                  | zero => exact absurd HA.out (by simp [depotref21_Letters.l1])
                  | succ k3 =>
                    have H := HA.out
                    clear HA
                    simp only [depotref21_Letters.l1] at H
                    by_cases c9 : x7_3 ≤ t103
                    · rw [if_pos c9] at H
                      have c9b0 : decide (x7_3 ≤ t103) = true := decide_eq_true c9
                      clear c9
                      obtain ⟨ji10, hji10⟩ : ∃ j_ : Int, (wrap64 (x3_1 + x7_3)) = j_ := ⟨_, rfl⟩
                      replace H : (if 0 ≤ (ji10) then (if (ji10) < (a0.size : Int) then (if (bt a0 (ji10)) < 128 then (some false) else (if (bt a0 (ji10)) > 191 then (some false) else (if x7_3 = 1 then (if (bt a0 (ji10)) < t104 then (some false) else (if (bt a0 (ji10)) > t105 then (some false) else (depotref21_Letters.l1 k3 a0 x3_1 t103 t104 t105 (wrap64 (x7_3 + 1))))) else (depotref21_Letters.l1 k3 a0 x3_1 t103 t104 t105 (wrap64 (x7_3 + 1)))))) else (none)) else (none)) = some r := by first | (rw [hji10] at H; exact H) | (simp only [hji10] at H ⊢; exact H)
                      have hji10w : (IntKind.i64.wrap (x3_1 + x7_3)) = ji10 := (i64_w _).trans hji10
                      by_cases c11 : 0 ≤ (ji10)
                      · rw [if_pos c11] at H
                        have c11b0 : decide (0 ≤ (ji10)) = true := decide_eq_true c11
                        clear c11
                        by_cases c12 : (ji10) < (a0.size : Int)
                        · rw [if_pos c12] at H
                          have c12b0 : decide ((ji10) < (a0.size : Int)) = true := decide_eq_true c12
                          clear c12
                          by_cases c14 : (bt a0 (ji10)) < 128
                          · rw [if_pos c14] at H
                            have c14b0 : decide ((bt a0 (ji10)) < 128) = true := decide_eq_true c14
                            clear c14
                            obtain rfl := Option.some.inj H
                            have p13 : 0 ≤ ((ji10) : Int) := of_decide_eq_true (by first | (with_reducible assumption) | assumption)
                            have q13 : (ji10) < (a0.size : Int) := of_decide_eq_true (by first | (with_reducible assumption) | assumption)
                            have hx13 := bt_at a0 (ji10)
                            replace p13 := eq_true p13
                            replace q13 := eq_true q13
                            go_wp2
                            go_ret
                            exact ⟨by first | rfl | (simp; done) | (simp only [← hji10] <;> (first | rfl | simp)) | (simp [*]; done), by repeat (first | exact Drawn0.refl _ | apply Drawn0.step)⟩
                          · rw [if_neg c14] at H
                            have c14b0 : decide ((bt a0 (ji10)) < 128) = false := decide_eq_false c14
                            clear c14
                            by_cases c15 : (bt a0 (ji10)) > 191
                            · rw [if_pos c15] at H
                              have c15b0 : decide (191 < (bt a0 (ji10))) = true := decide_eq_true c15
                              clear c15
                              obtain rfl := Option.some.inj H
                              have p13 : 0 ≤ ((ji10) : Int) := of_decide_eq_true (by first | (with_reducible assumption) | assumption)
                              have q13 : (ji10) < (a0.size : Int) := of_decide_eq_true (by first | (with_reducible assumption) | assumption)
                              have hx13 := bt_at a0 (ji10)
                              replace p13 := eq_true p13
                              replace q13 := eq_true q13
                              go_wp2
                              go_ret
                              exact ⟨by first | rfl | (simp; done) | (simp only [← hji10] <;> (first | rfl | simp)) | (simp [*]; done), by repeat (first | exact Drawn0.refl _ | apply Drawn0.step)⟩
                            · rw [if_neg c15] at H
                              have c15b0 : decide (191 < (bt a0 (ji10))) = false := decide_eq_false c15
                              clear c15
                              by_cases c16 : x7_3 = 1
                              · rw [if_pos c16] at H
                                have c16b0 : (x7_3 == 1) = true := beq_iff_eq.mpr c16
                                have c16b1 : (x7_3 != 1) = false := bne_eq_false_iff_eq.mpr c16
                                clear c16
                                by_cases c17 : (bt a0 (ji10)) < t104
                                · rw [if_pos c17] at H
                                  have c17b0 : decide ((bt a0 (ji10)) < t104) = true := decide_eq_true c17
                                  clear c17
                                  obtain rfl := Option.some.inj H
                                  have p13 : 0 ≤ ((ji10) : Int) := of_decide_eq_true (by first | (with_reducible assumption) | assumption)
                                  have q13 : (ji10) < (a0.size : Int) := of_decide_eq_true (by first | (with_reducible assumption) | assumption)
                                  have hx13 := bt_at a0 (ji10)
                                  replace p13 := eq_true p13
                                  replace q13 := eq_true q13
                                  go_wp2
                                  go_ret
                                  exact ⟨by first | rfl | (simp; done) | (simp only [← hji10] <;> (first | rfl | simp)) | (simp [*]; done), by repeat (first | exact Drawn0.refl _ | apply Drawn0.step)⟩
                                · rw [if_neg c17] at H
                                  have c17b0 : decide ((bt a0 (ji10)) < t104) = false := decide_eq_false c17
                                  clear c17
                                  by_cases c18 : (bt a0 (ji10)) > t105
                                  · rw [if_pos c18] at H
                                    have c18b0 : decide (t105 < (bt a0 (ji10))) = true := decide_eq_true c18
                                    clear c18
                                    obtain rfl := Option.some.inj H
                                    have p13 : 0 ≤ ((ji10) : Int) := of_decide_eq_true (by first | (with_reducible assumption) | assumption)
                                    have q13 : (ji10) < (a0.size : Int) := of_decide_eq_true (by first | (with_reducible assumption) | assumption)
                                    have hx13 := bt_at a0 (ji10)
                                    replace p13 := eq_true p13
                                    replace q13 := eq_true q13
                                    go_wp2
                                    go_ret
                                    exact ⟨by first | rfl | (simp; done) | (simp only [← hji10] <;> (first | rfl | simp)) | (simp [*]; done), by repeat (first | exact Drawn0.refl _ | apply Drawn0.step)⟩
                                  · rw [if_neg c18] at H
                                    have c18b0 : decide (t105 < (bt a0 (ji10))) = false := decide_eq_false c18
                                    clear c18
                                    have H' := Aside0.mk H
                                    clear H
                                    have p13 : 0 ≤ ((ji10) : Int) := of_decide_eq_true (by first | (with_reducible assumption) | assumption)
                                    have q13 : (ji10) < (a0.size : Int) := of_decide_eq_true (by first | (with_reducible assumption) | assumption)
                                    have hx13 := bt_at a0 (ji10)
                                    replace p13 := eq_true p13
                                    replace q13 := eq_true q13
                                    go_wp2
                                    go_roundg k3
                                    case measure => have := HK1.out; have := HJ5.out; have := HK3.out; omega
                                    case rel => exact ⟨(wrap64 (x7_3 + 1)), (by first | rfl | (simp; done) | (simp [*]; done)), H', ⟨by have := HK1.out; have := HJ5.out; have := HK3.out; omega⟩, by repeat (first | exact Drawn0.refl _ | apply Drawn0.step)⟩
                              · rw [if_neg c16] at H
                                have c16b0 : (x7_3 == 1) = false := beq_eq_false_iff_ne.mpr c16
                                have c16b1 : (x7_3 != 1) = true := bne_iff_ne.mpr c16
                                have H' := Aside0.mk H
                                clear H
                                have p13 : 0 ≤ ((ji10) : Int) := of_decide_eq_true (by first | (with_reducible assumption) | assumption)
                                have q13 : (ji10) < (a0.size : Int) := of_decide_eq_true (by first | (with_reducible assumption) | assumption)
                                have hx13 := bt_at a0 (ji10)
                                replace p13 := eq_true p13
                                replace q13 := eq_true q13
                                go_wp2
                                go_roundg k3
                                case measure => have := HK1.out; have := HJ5.out; have := HK3.out; omega
                                case rel => exact ⟨(wrap64 (x7_3 + 1)), (by first | rfl | (simp; done) | (simp [*]; done)), H', ⟨by have := HK1.out; have := HJ5.out; have := HK3.out; omega⟩, by repeat (first | exact Drawn0.refl _ | apply Drawn0.step)⟩
                        · rw [if_neg c12] at H
                          exact absurd H (by simp)
                      · rw [if_neg c11] at H
                        exact absurd H (by simp)
                    · rw [if_neg c9] at H
                      have c9b0 : decide (x7_3 ≤ t103) = false := decide_eq_false c9
                      clear c9
                      have H' := Aside0.mk H
                      clear H
                      go_wp2
                      go_roundg k3
                      case measure => have := HK1.out; have := HJ5.out; have := HK3.out; omega
                      case rel => exact ⟨(wrap64 ((wrap64 (x3_1 + t103)) + 1)), (by first | rfl | (simp; done) | (simp [*]; done)), H', ⟨by have := HK1.out; have := HJ5.out; have := HK3.out; omega⟩, by repeat (first | exact Drawn0.refl _ | apply Drawn0.step)⟩
        · rw [if_neg c3] at H
          exact absurd H (by simp)
      · rw [if_neg c2] at H
        have c2b0 : decide (x3_1 < (a0.size : Int)) = false := decide_eq_false c2
        clear c2
        obtain rfl := Option.some.inj H
        go_wp2
        go_ret
        exact ⟨by first | rfl | (simp; done) | (simp [*]; done), by repeat (first | exact Drawn0.refl _ | apply Drawn0.step)⟩

/-! ### depotref21_Fair: function 34 -/
def depotref21_Fair.l0 : Nat → ByteArray → Bool → Int → Option (Bool)
  | 0, _, _, _ => none
  | k + 1, x0, x1, x5 => if x5 < (x0.size : Int) then (if 0 ≤ x5 then (if (bt x0 x5) = 127 then (some false) else (if (bt x0 x5) < 32 then (if (bt x0 x5) = 9 then (depotref21_Fair.l0 k x0 x1 (wrap64 (x5 + 1))) else (if x1 = true then (if ((bt x0 x5) = 10) then (depotref21_Fair.l0 k x0 x1 (wrap64 (x5 + 1))) else (some false)) else (some false))) else (depotref21_Fair.l0 k x0 x1 (wrap64 (x5 + 1))))) else (none)) else ((depotref21_Letters.f k x0).bind fun t106 => (some t106))
def depotref21_Fair.f (k : Nat) (a0 : ByteArray) (a1 : Bool) : Option (Bool) := depotref21_Fair.l0 k a0 a1 0
set_option maxHeartbeats 8000000 in
set_option maxRecDepth 100000 in
theorem depotref21_Fair.calls (k : Nat) (a0 : ByteArray) (a1 : Bool) (r : Bool) (w : World) (h : depotref21_Fair.f k a0 a1 = some r) :
    Calls Tryd.prog 34 #[.string a0, .bool a1] w fun e w' => e = .returned (.bool r) ∧ Drawn0 w w' := by
  have H : (depotref21_Fair.l0 k a0 a1 0) = some r := h
  clear h
  have H' := Aside0.mk H
  clear H
  go_enter Tryd.func34, Tryd.ntmps34
  go_wp2
  go_loopg [5] k (fun kq v5 w' => ∃ (x5_1 : Int), v5 = .int .i64 x5_1 ∧ Aside0 (depotref21_Fair.l0 kq a0 a1 x5_1 = some r) ∧ Aside0 (kq ≤ k) ∧ Drawn0 w w')
  case atStart => exact ⟨(0), (by first | rfl | (simp; done) | (simp [*]; done)), H', ⟨Nat.le_refl _⟩, by repeat (first | exact Drawn0.refl _ | apply Drawn0.step)⟩
  case round =>
    clear H'
    try clear p2
    obtain ⟨x5_1, rfl, HA, HK1, ⟨m1, rfl⟩⟩ := hrel
    cases gk with
    | zero => exact absurd HA.out (by simp [depotref21_Fair.l0])
    | succ k1 =>
      have H := HA.out
      clear HA
      simp only [depotref21_Fair.l0] at H
      by_cases c3 : x5_1 < (a0.size : Int)
      · rw [if_pos c3] at H
        have c3b0 : decide (x5_1 < (a0.size : Int)) = true := decide_eq_true c3
        clear c3
        by_cases c4 : 0 ≤ x5_1
        · rw [if_pos c4] at H
          have c4b0 : decide (0 ≤ x5_1) = true := decide_eq_true c4
          clear c4
          by_cases c6 : (bt a0 x5_1) = 127
          · rw [if_pos c6] at H
            have c6b0 : ((bt a0 x5_1) == 127) = true := beq_iff_eq.mpr c6
            have c6b1 : ((bt a0 x5_1) != 127) = false := bne_eq_false_iff_eq.mpr c6
            clear c6
            obtain rfl := Option.some.inj H
            have p5 : 0 ≤ (x5_1 : Int) := of_decide_eq_true (by first | (with_reducible assumption) | assumption)
            have q5 : x5_1 < (a0.size : Int) := of_decide_eq_true (by first | (with_reducible assumption) | assumption)
            have hx5 := bt_at a0 x5_1
            replace p5 := eq_true p5
            replace q5 := eq_true q5
            go_wp2
            go_ret
            exact ⟨by first | rfl | (simp; done) | (simp [*]; done), by repeat (first | exact Drawn0.refl _ | apply Drawn0.step)⟩
          · rw [if_neg c6] at H
            have c6b0 : ((bt a0 x5_1) == 127) = false := beq_eq_false_iff_ne.mpr c6
            have c6b1 : ((bt a0 x5_1) != 127) = true := bne_iff_ne.mpr c6
            by_cases c8 : (bt a0 x5_1) < 32
            · rw [if_pos c8] at H
              have c8b0 : decide ((bt a0 x5_1) < 32) = true := decide_eq_true c8
              clear c8
              by_cases c10 : (bt a0 x5_1) = 9
              · rw [if_pos c10] at H
                have c10b0 : ((bt a0 x5_1) == 9) = true := beq_iff_eq.mpr c10
                have c10b1 : ((bt a0 x5_1) != 9) = false := bne_eq_false_iff_eq.mpr c10
                clear c10
                have H' := Aside0.mk H
                clear H
                have p5 : 0 ≤ (x5_1 : Int) := of_decide_eq_true (by first | (with_reducible assumption) | assumption)
                have q5 : x5_1 < (a0.size : Int) := of_decide_eq_true (by first | (with_reducible assumption) | assumption)
                have hx5 := bt_at a0 x5_1
                replace p5 := eq_true p5
                replace q5 := eq_true q5
                have p7 : 0 ≤ (x5_1 : Int) := of_decide_eq_true (by first | (with_reducible assumption) | assumption)
                have q7 : x5_1 < (a0.size : Int) := of_decide_eq_true (by first | (with_reducible assumption) | assumption)
                have hx7 := bt_at a0 x5_1
                replace p7 := eq_true p7
                replace q7 := eq_true q7
                have p9 : 0 ≤ (x5_1 : Int) := of_decide_eq_true (by first | (with_reducible assumption) | assumption)
                have q9 : x5_1 < (a0.size : Int) := of_decide_eq_true (by first | (with_reducible assumption) | assumption)
                have hx9 := bt_at a0 x5_1
                replace p9 := eq_true p9
                replace q9 := eq_true q9
                go_wp2
                go_roundg k1
                case measure => have := HK1.out; omega
                case rel => exact ⟨(wrap64 (x5_1 + 1)), (by first | rfl | (simp; done) | (simp [*]; done)), H', ⟨by have := HK1.out; omega⟩, by repeat (first | exact Drawn0.refl _ | apply Drawn0.step)⟩
              · rw [if_neg c10] at H
                have c10b0 : ((bt a0 x5_1) == 9) = false := beq_eq_false_iff_ne.mpr c10
                have c10b1 : ((bt a0 x5_1) != 9) = true := bne_iff_ne.mpr c10
                by_cases c11 : a1 = true
                · subst c11
                  have H1 : (if ((bt a0 x5_1) = 10) then (depotref21_Fair.l0 k1 a0 true (wrap64 (x5_1 + 1))) else (some false)) = some r := by rw [if_pos rfl] at H; exact H
                  clear H
                  have H := H1
                  clear H1
                  by_cases c13 : ((bt a0 x5_1) = 10)
                  · rw [if_pos c13] at H
                    have c13b0 : ((bt a0 x5_1) == 10) = true := beq_iff_eq.mpr c13
                    have c13b1 : ((bt a0 x5_1) != 10) = false := bne_eq_false_iff_eq.mpr c13
                    clear c13
                    have H' := Aside0.mk H
                    clear H
                    have p5 : 0 ≤ (x5_1 : Int) := of_decide_eq_true (by first | (with_reducible assumption) | assumption)
                    have q5 : x5_1 < (a0.size : Int) := of_decide_eq_true (by first | (with_reducible assumption) | assumption)
                    have hx5 := bt_at a0 x5_1
                    replace p5 := eq_true p5
                    replace q5 := eq_true q5
                    have p7 : 0 ≤ (x5_1 : Int) := of_decide_eq_true (by first | (with_reducible assumption) | assumption)
                    have q7 : x5_1 < (a0.size : Int) := of_decide_eq_true (by first | (with_reducible assumption) | assumption)
                    have hx7 := bt_at a0 x5_1
                    replace p7 := eq_true p7
                    replace q7 := eq_true q7
                    have p9 : 0 ≤ (x5_1 : Int) := of_decide_eq_true (by first | (with_reducible assumption) | assumption)
                    have q9 : x5_1 < (a0.size : Int) := of_decide_eq_true (by first | (with_reducible assumption) | assumption)
                    have hx9 := bt_at a0 x5_1
                    replace p9 := eq_true p9
                    replace q9 := eq_true q9
                    have p12 : 0 ≤ (x5_1 : Int) := of_decide_eq_true (by first | (with_reducible assumption) | assumption)
                    have q12 : x5_1 < (a0.size : Int) := of_decide_eq_true (by first | (with_reducible assumption) | assumption)
                    have hx12 := bt_at a0 x5_1
                    replace p12 := eq_true p12
                    replace q12 := eq_true q12
                    go_wp2
                    go_roundg k1
                    case measure => have := HK1.out; omega
                    case rel => exact ⟨(wrap64 (x5_1 + 1)), (by first | rfl | (simp; done) | (simp [*]; done)), H', ⟨by have := HK1.out; omega⟩, by repeat (first | exact Drawn0.refl _ | apply Drawn0.step)⟩
                  · rw [if_neg c13] at H
                    have c13b0 : ((bt a0 x5_1) == 10) = false := beq_eq_false_iff_ne.mpr c13
                    have c13b1 : ((bt a0 x5_1) != 10) = true := bne_iff_ne.mpr c13
                    obtain rfl := Option.some.inj H
                    have p5 : 0 ≤ (x5_1 : Int) := of_decide_eq_true (by first | (with_reducible assumption) | assumption)
                    have q5 : x5_1 < (a0.size : Int) := of_decide_eq_true (by first | (with_reducible assumption) | assumption)
                    have hx5 := bt_at a0 x5_1
                    replace p5 := eq_true p5
                    replace q5 := eq_true q5
                    have p7 : 0 ≤ (x5_1 : Int) := of_decide_eq_true (by first | (with_reducible assumption) | assumption)
                    have q7 : x5_1 < (a0.size : Int) := of_decide_eq_true (by first | (with_reducible assumption) | assumption)
                    have hx7 := bt_at a0 x5_1
                    replace p7 := eq_true p7
                    replace q7 := eq_true q7
                    have p9 : 0 ≤ (x5_1 : Int) := of_decide_eq_true (by first | (with_reducible assumption) | assumption)
                    have q9 : x5_1 < (a0.size : Int) := of_decide_eq_true (by first | (with_reducible assumption) | assumption)
                    have hx9 := bt_at a0 x5_1
                    replace p9 := eq_true p9
                    replace q9 := eq_true q9
                    have p12 : 0 ≤ (x5_1 : Int) := of_decide_eq_true (by first | (with_reducible assumption) | assumption)
                    have q12 : x5_1 < (a0.size : Int) := of_decide_eq_true (by first | (with_reducible assumption) | assumption)
                    have hx12 := bt_at a0 x5_1
                    replace p12 := eq_true p12
                    replace q12 := eq_true q12
                    go_wp2
                    go_ret
                    exact ⟨by first | rfl | (simp; done) | (simp [*]; done), by repeat (first | exact Drawn0.refl _ | apply Drawn0.step)⟩
                · replace c11 := Bool.eq_false_iff.mpr c11
                  subst c11
                  have H1 : (some false) = some r := by rw [if_neg (show ¬ (false = true) by decide)] at H; exact H
                  clear H
                  have H := H1
                  clear H1
                  obtain rfl := Option.some.inj H
                  have p5 : 0 ≤ (x5_1 : Int) := of_decide_eq_true (by first | (with_reducible assumption) | assumption)
                  have q5 : x5_1 < (a0.size : Int) := of_decide_eq_true (by first | (with_reducible assumption) | assumption)
                  have hx5 := bt_at a0 x5_1
                  replace p5 := eq_true p5
                  replace q5 := eq_true q5
                  have p7 : 0 ≤ (x5_1 : Int) := of_decide_eq_true (by first | (with_reducible assumption) | assumption)
                  have q7 : x5_1 < (a0.size : Int) := of_decide_eq_true (by first | (with_reducible assumption) | assumption)
                  have hx7 := bt_at a0 x5_1
                  replace p7 := eq_true p7
                  replace q7 := eq_true q7
                  have p9 : 0 ≤ (x5_1 : Int) := of_decide_eq_true (by first | (with_reducible assumption) | assumption)
                  have q9 : x5_1 < (a0.size : Int) := of_decide_eq_true (by first | (with_reducible assumption) | assumption)
                  have hx9 := bt_at a0 x5_1
                  replace p9 := eq_true p9
                  replace q9 := eq_true q9
                  go_wp2
                  go_ret
                  exact ⟨by first | rfl | (simp; done) | (simp [*]; done), by repeat (first | exact Drawn0.refl _ | apply Drawn0.step)⟩
            · rw [if_neg c8] at H
              have c8b0 : decide ((bt a0 x5_1) < 32) = false := decide_eq_false c8
              clear c8
              have H' := Aside0.mk H
              clear H
              have p5 : 0 ≤ (x5_1 : Int) := of_decide_eq_true (by first | (with_reducible assumption) | assumption)
              have q5 : x5_1 < (a0.size : Int) := of_decide_eq_true (by first | (with_reducible assumption) | assumption)
              have hx5 := bt_at a0 x5_1
              replace p5 := eq_true p5
              replace q5 := eq_true q5
              have p7 : 0 ≤ (x5_1 : Int) := of_decide_eq_true (by first | (with_reducible assumption) | assumption)
              have q7 : x5_1 < (a0.size : Int) := of_decide_eq_true (by first | (with_reducible assumption) | assumption)
              have hx7 := bt_at a0 x5_1
              replace p7 := eq_true p7
              replace q7 := eq_true q7
              go_wp2
              go_roundg k1
              case measure => have := HK1.out; omega
              case rel => exact ⟨(wrap64 (x5_1 + 1)), (by first | rfl | (simp; done) | (simp [*]; done)), H', ⟨by have := HK1.out; omega⟩, by repeat (first | exact Drawn0.refl _ | apply Drawn0.step)⟩
        · rw [if_neg c4] at H
          exact absurd H (by simp)
      · rw [if_neg c3] at H
        have c3b0 : decide (x5_1 < (a0.size : Int)) = false := decide_eq_false c3
        clear c3
        replace H := Option.bind_eq_some_iff.mp H
        obtain ⟨t106, A140, H⟩ := H
        replace H : (some t106) = some r := H
        have A14 := Aside0.mk A140
        clear A140
        obtain rfl := Option.some.inj H
        go_wp2_with (first | ((with_reducible refine gate_callee (f := 57) rfl ?_); refine goesL_ (some 39) rfl rfl Tryd.func57 (by kernel_rfl) rfl #[.string a0] rfl (by (try simp only [List.map_toArray, List.map_cons, List.map_nil]); first | done | rfl | (simp only [List.length_drop, List.length_take]; rfl)) ?_; (with_reducible refine (depotref21_Letters.calls k1 a0 t106 _ A14.out).mono ?_); rintro e w' ⟨rfl, ⟨nd, rfl⟩⟩; refine ⟨_, rfl, ?_⟩))
        go_ret
        exact ⟨by first | rfl | (simp; done) | (simp [*]; done), by repeat (first | exact Drawn0.refl _ | apply Drawn0.step)⟩

end Go.Proofs.YtbaiglikmneicaaDoor.V
end
section
set_option linter.unusedVariables false
set_option maxHeartbeats 400000
set_option linter.unusedSimpArgs false
namespace Go.Proofs.YtbaiglikmneicaaDoor.V
open Go.RowKit Go.Lib Go.Proofs.YtbaiglikmneicaaDoorW.PrintWords Go.Proofs.YtbaiglikmneicaaDoorW.PrintLast Go.Proofs.YtbaiglikmneicaaDoorW.PrintMore
open Go.Proofs.YtbaiglikmneicaaDoor.R (mkB mkB_size mkB_extract mkB_data)
open Go.Proofs.YtbaiglikmneicaaDoor.C (okC fairL)
open Go.Proofs.YtbaiglikmneicaaDoor.P (trimC trimC_eq blankB blankB_iff drop_head last_drop)

theorem bt_mk (l : List UInt8) (i : Nat) (h : i < l.length) : bt (mkB l) (i : Int) = (l[i].toNat : Int) := by
  unfold bt
  rw [dif_pos (show ((i : Int).toNat) < (mkB l).size by rw [mkB_size]; omega)]
  simp [mkB]
  rfl
theorem blank_is (b : UInt8) : depotref21_blank.f (b.toNat : Int) = some (blankB b) := by
  unfold depotref21_blank.f
  by_cases h : b = 32
  · subst h; rfl
  · rw [if_neg (fun e => h (UInt8.toNat_inj.1 (by show b.toNat = 32; omega)))]
    by_cases h9 : b = 9
    · subst h9; rfl
    · have e1 : blankB b = false := by
        cases hb : blankB b with
        | false => rfl
        | true => rcases (blankB_iff b).1 hb with e | e
                  · exact absurd e h
                  · exact absurd e h9
      rw [e1, beq_eq_false_iff_ne.2 (fun e => h9 (UInt8.toNat_inj.1 (by show b.toNat = 9; omega)))]
theorem trim_end : ∀ (n : Nat) (l : List UInt8), l.length = n → n ≤ 4398046511104 → ∀ k, n < k → depotref21_Trim.l1 k (mkB l) = some (mkB (l.reverse.dropWhile blankB).reverse)
  | 0, l, hl, _, k, hk => by
    obtain ⟨k, rfl⟩ : ∃ k', k = k' + 1 := ⟨k - 1, by omega⟩
    obtain rfl := List.eq_nil_of_length_eq_zero hl
    rfl
  | n + 1, l, hl, hn, k, hk => by
    obtain ⟨k, rfl⟩ : ∃ k', k = k' + 1 := ⟨k - 1, by omega⟩
    rcases List.eq_nil_or_concat l with rfl | ⟨p, b, rfl⟩
    · cases hl
    · rw [List.concat_eq_append] at *
      have hp : p.length = n := by simpa using hl
      have hw : wrap64 (((mkB (p ++ [b])).size : Int) - 1) = (n : Int) := by rw [mkB_size, hl]; unfold wrap64; omega
      have hs : ((mkB (p ++ [b])).size : Int) = (n : Int) + 1 := by rw [mkB_size, hl]; rfl
      rw [depotref21_Trim.l1, hw, hs, if_pos (by omega), if_pos (by omega), if_pos (by omega), bt_mk _ n (by rw [hl]; omega)]
      have hb : (p ++ [b])[n]'(by rw [hl]; omega) = b := by subst hp; simp
      rw [hb, blank_is, Option.bind_some]
      have hr : (p ++ [b]).reverse = b :: p.reverse := by simp
      cases hq : blankB b with
      | true =>
        rw [if_pos rfl, if_pos (by omega), Int.toNat_natCast, mkB_extract, List.drop_zero, Nat.sub_zero, ← hp, List.take_left]
        rw [trim_end n p hp (by omega) k (by omega), hr, List.dropWhile_cons_of_pos hq]
      | false =>
        rw [if_neg (by decide), hr, List.dropWhile_cons_of_neg (by rw [hq]; decide), ← hr, List.reverse_reverse]
theorem trimC_skip {b : UInt8} (t : List UInt8) (h : blankB b = true) : trimC (b :: t) = trimC t := by
  rw [trimC_eq, trimC_eq]
  have key : ∀ (u : List UInt8), (u ++ [b]).dropWhile blankB = if u.dropWhile blankB = [] then [] else u.dropWhile blankB ++ [b] := by
    intro u
    induction u with
    | nil => simp [h]
    | cons c u ih =>
      cases hc : blankB c with
      | true => rw [List.cons_append, List.dropWhile_cons_of_pos hc, List.dropWhile_cons_of_pos hc, ih]
      | false =>
        rw [List.cons_append, List.dropWhile_cons_of_neg (by rw [hc]; decide), List.dropWhile_cons_of_neg (by rw [hc]; decide)]
        simp
  rw [List.reverse_cons, key]
  by_cases he : t.reverse.dropWhile blankB = []
  · rw [if_pos he, he]
  · rw [if_neg he, List.reverse_append]
    show (b :: _).dropWhile blankB = _
    rw [List.dropWhile_cons_of_pos h]
    rfl
theorem trimC_stay {b : UInt8} (t : List UInt8) (h : blankB b = false) : trimC (b :: t) = ((b :: t).reverse.dropWhile blankB).reverse := by
  rw [trimC_eq]
  refine drop_head (fun c hc => ?_)
  rw [List.head?_reverse] at hc
  have h1 := last_drop _ _ c hc
  rw [List.getLast?_reverse] at h1
  obtain rfl : b = c := by simpa using h1
  exact h
theorem trim_go : ∀ (l : List UInt8), l.length ≤ 4398046511104 → ∀ k, l.length + l.length + 2 < k → depotref21_Trim.l0 k (mkB l) = some (mkB (trimC l))
  | [], _, k, hk => by
    obtain ⟨k, rfl⟩ : ∃ k', k = k' + 3 := ⟨k - 3, by simp at hk; omega⟩
    rfl
  | b :: t, hn, k, hk => by
    obtain ⟨k, rfl⟩ : ∃ k', k = k' + 2 := ⟨k - 2, by simp at hk; omega⟩
    have hs : ((mkB (b :: t)).size : Int) = (t.length : Int) + 1 := by rw [mkB_size]; rfl
    have h0 : bt (mkB (b :: t)) 0 = (b.toNat : Int) := bt_mk (b :: t) 0 (by simp)
    rw [List.length_cons] at hn hk
    rw [depotref21_Trim.l0, hs, if_pos (by omega), if_pos (by omega), h0, blank_is, Option.bind_some]
    cases hq : blankB b with
    | true =>
      rw [if_pos rfl, if_pos (by omega), mkB_extract, trimC_skip t hq]
      have e : ((b :: t).drop 1).take ((mkB (b :: t)).size - 1) = t := by rw [mkB_size]; simp
      rw [e, trim_go t (by omega) (k + 1) (by omega)]
    | false =>
      rw [if_neg (by decide), depotref21_Trim.j1, trim_end _ (b :: t) rfl (by rw [List.length_cons]; omega) k (by rw [List.length_cons]; omega), trimC_stay t hq]
theorem trim_is (l : List UInt8) (hl : l.length ≤ 4398046511104) (k : Nat) (hk : l.length + l.length + 2 < k) : depotref21_Trim.f k (mkB l) = some (mkB (trimC l)) := trim_go l hl k hk

end Go.Proofs.YtbaiglikmneicaaDoor.V
end
section
set_option linter.unusedVariables false
set_option maxHeartbeats 400000
set_option linter.unusedSimpArgs false
namespace Go.Proofs.YtbaiglikmneicaaDoor.V
open Go.RowKit Go.Lib Go.Proofs.YtbaiglikmneicaaDoorW.PrintWords Go.Proofs.YtbaiglikmneicaaDoorW.PrintLast Go.Proofs.YtbaiglikmneicaaDoorW.PrintMore
open Go.Proofs.YtbaiglikmneicaaDoor.R (mkB mkB_size mkB_extract mkB_data)
open Go.Proofs.YtbaiglikmneicaaDoor.C (okC fairL)
open Go.Proofs.YtbaiglikmneicaaDoor.P (trimC trimC_eq blankB blankB_iff drop_head last_drop)

/-! ### letters -/
def moreP (c : Nat) : Int × Int × Int :=
  if c < 128 then (0, 0, 0) else if firstT c % 8 = 2 then (1, accLo (firstT c / 16), accHi (firstT c / 16)) else if firstT c % 8 = 3 then (2, accLo (firstT c / 16), accHi (firstT c / 16)) else if firstT c % 8 = 4 then (3, accLo (firstT c / 16), accHi (firstT c / 16)) else (-1, 0, 0)
theorem more_4 (c : Int) (k : Nat) : depotref21_more.f (k + 3) c = depotref21_more.f 3 c := by
  unfold depotref21_more.f
  simp only [depotref21_more.j0, depotref21_more.j1, depotref21_more.j2]
theorem more_all : ∀ b : Fin 256, depotref21_more.f 3 (b.val : Int) = some (moreP b.val) := by decide +kernel
theorem more_is (b : UInt8) (k : Nat) (hk : 3 ≤ k) : depotref21_more.f k (b.toNat : Int) = some (moreP b.toNat) := by
  obtain ⟨k, rfl⟩ : ∃ k', k = k' + 3 := ⟨k - 3, by omega⟩
  rw [more_4]
  exact more_all ⟨b.toNat, b.toNat_lt⟩
theorem lead_all : ∀ b : Fin 256, 128 ≤ b.val → (firstT b.val % 8 = 2 ∨ firstT b.val % 8 = 3 ∨ firstT b.val % 8 = 4) → 128 ≤ accLo (firstT b.val / 16) ∧ accHi (firstT b.val / 16) ≤ 191 := by decide +kernel
end Go.Proofs.YtbaiglikmneicaaDoor.V
end
section
set_option linter.unusedVariables false
set_option maxHeartbeats 400000
set_option linter.unusedSimpArgs false
namespace Go.Proofs.YtbaiglikmneicaaDoor.V
open Go.RowKit Go.Lib Go.Proofs.YtbaiglikmneicaaDoorW.PrintWords Go.Proofs.YtbaiglikmneicaaDoorW.PrintLast Go.Proofs.YtbaiglikmneicaaDoorW.PrintMore
open Go.Proofs.YtbaiglikmneicaaDoor.R (mkB mkB_size mkB_extract mkB_data)
open Go.Proofs.YtbaiglikmneicaaDoor.C (okC fairL)
open Go.Proofs.YtbaiglikmneicaaDoor.P (trimC trimC_eq blankB blankB_iff drop_head last_drop)

theorem go_first (W : List UInt8) (i n lo hi k : Nat) (hW : W.length ≤ 4398046511104) (hn : 1 ≤ n) (h : i + 1 < W.length) (hlo : 128 ≤ lo) (hhi : hi ≤ 191) :
    depotref21_Letters.l1 (k + 1) (mkB W) i n lo hi 1 = if W[i + 1].toNat < lo ∨ hi < W[i + 1].toNat then some false else depotref21_Letters.l1 k (mkB W) i n lo hi 2 := by
  have hw : wrap64 ((i : Int) + 1) = ((i + 1 : Nat) : Int) := by unfold wrap64; omega
  have hw2 : wrap64 ((1 : Int) + 1) = 2 := by unfold wrap64; omega
  have hs : ((mkB W).size : Int) = (W.length : Int) := by rw [mkB_size]
  rw [depotref21_Letters.l1, if_pos (by omega), hw, hs, if_pos (by omega), if_pos (by omega), bt_mk W (i + 1) h, if_pos rfl, hw2]
  by_cases c1 : W[i + 1].toNat < lo
  · rw [if_pos (Or.inl c1)]
    repeat' split
    all_goals first | rfl | (exfalso; omega)
  · by_cases c2 : hi < W[i + 1].toNat
    · rw [if_pos (Or.inr c2)]
      repeat' split
      all_goals first | rfl | (exfalso; omega)
    · rw [if_neg (by omega), if_neg (by omega), if_neg (by omega), if_neg (by omega), if_neg (by omega)]
theorem go_next (W : List UInt8) (i n lo hi k j : Nat) (hW : W.length ≤ 4398046511104) (hj : 2 ≤ j) (hn : j ≤ n) (h : i + j < W.length) :
    depotref21_Letters.l1 (k + 1) (mkB W) i n lo hi j = if W[i + j].toNat < 128 ∨ 191 < W[i + j].toNat then some false else depotref21_Letters.l1 k (mkB W) i n lo hi ((j + 1 : Nat) : Int) := by
  have hw : wrap64 ((i : Int) + (j : Int)) = ((i + j : Nat) : Int) := by unfold wrap64; omega
  have hw2 : wrap64 ((j : Int) + 1) = ((j + 1 : Nat) : Int) := by unfold wrap64; omega
  have hs : ((mkB W).size : Int) = (W.length : Int) := by rw [mkB_size]
  rw [depotref21_Letters.l1, if_pos (by omega), hw, hs, if_pos (by omega), if_pos (by omega), bt_mk W (i + j) h, if_neg (show ¬ ((j : Int) = 1) by omega), hw2]
  by_cases c1 : W[i + j].toNat < 128
  · rw [if_pos (Or.inl c1), if_pos (by omega)]
  · by_cases c2 : 191 < W[i + j].toNat
    · rw [if_pos (Or.inr c2), if_neg (by omega), if_pos (by omega)]
    · rw [if_neg (by omega), if_neg (by omega), if_neg (by omega)]
theorem go_end (W : List UInt8) (i n : Nat) (lo hi : Int) (k : Nat) (hW : W.length ≤ 4398046511104) (h : i + n < W.length) :
    depotref21_Letters.l1 (k + 1) (mkB W) i n lo hi ((n + 1 : Nat) : Int) = depotref21_Letters.l0 k (mkB W) ((i + n + 1 : Nat) : Int) := by
  have hw : wrap64 (wrap64 ((i : Int) + (n : Int)) + 1) = ((i + n + 1 : Nat) : Int) := by unfold wrap64; omega
  rw [depotref21_Letters.l1, if_neg (by omega), hw]
theorem getD_drop (W : List UInt8) (i j : Nat) (h : i + j < W.length) : (W.drop i).getD j 0 = W[i + j] := by
  rw [List.getD_eq_getElem?_getD, List.getElem?_drop, List.getElem?_eq_getElem h]; rfl
end Go.Proofs.YtbaiglikmneicaaDoor.V
end
section
set_option linter.unusedVariables false
set_option maxHeartbeats 400000
set_option linter.unusedSimpArgs false
namespace Go.Proofs.YtbaiglikmneicaaDoor.V
open Go.RowKit Go.Lib Go.Proofs.YtbaiglikmneicaaDoorW.PrintWords Go.Proofs.YtbaiglikmneicaaDoorW.PrintLast Go.Proofs.YtbaiglikmneicaaDoorW.PrintMore
open Go.Proofs.YtbaiglikmneicaaDoor.R (mkB mkB_size mkB_extract mkB_data)
open Go.Proofs.YtbaiglikmneicaaDoor.C (okC fairL)
open Go.Proofs.YtbaiglikmneicaaDoor.P (trimC trimC_eq blankB blankB_iff drop_head last_drop)

set_option maxHeartbeats 2000000 in
theorem letters_go (W : List UInt8) (hW : W.length ≤ 4398046511104) : ∀ (d i : Nat), i ≤ W.length → W.length - i ≤ d → ∀ k, d * 6 + 6 < k → depotref21_Letters.l0 k (mkB W) (i : Int) = some (validD (W.drop i)) := by
  have hs : ((mkB W).size : Int) = (W.length : Int) := by rw [mkB_size]
  intro d
  induction d with
  | zero =>
    intro i hi hd k hk
    obtain ⟨k, rfl⟩ : ∃ k', k = k' + 1 := ⟨k - 1, by omega⟩
    rw [depotref21_Letters.l0, hs, if_neg (by omega), List.drop_of_length_le (by omega), validD_nil]
  | succ d ih =>
    intro i hi hd k hk
    by_cases hlt : i < W.length
    · obtain ⟨k, rfl⟩ : ∃ k', k = k' + 7 := ⟨k - 7, by omega⟩
      have h0 := bt_mk W i hlt
      have hne : W.drop i ≠ [] := fun e => by have := congrArg List.length e; rw [List.length_drop] at this; simp at this; omega
      have hg0 : (W.drop i).getD 0 0 = W[i] := by rw [getD_drop W i 0 (by omega)]; rfl
      obtain ⟨b0, hb0⟩ : ∃ b0, W[i] = b0 := ⟨_, rfl⟩
      rw [hb0] at h0 hg0
      have hb256 := b0.toNat_lt
      rw [depotref21_Letters.l0, hs, if_pos (by omega), if_pos (by omega), h0, more_is b0 (k + 6) (by omega), Option.bind_some]
      by_cases hlow : b0.toNat < 128
      · have hm : moreP b0.toNat = (0, 0, 0) := by unfold moreP; rw [if_pos hlow]
        rw [hm]
        have hw := Aside0.mk (show wrap64 ((i : Int) + 0) = (i : Int) from by unfold wrap64; omega)
        have hw1 := Aside0.mk (show wrap64 ((i : Int) + 1) = ((i + 1 : Nat) : Int) from by unfold wrap64; omega)
        simp only []
        rw [if_neg (by decide), hw.out, decide_eq_false (by omega), depotref21_Letters.j1, if_neg (by decide), depotref21_Letters.l1, if_neg (by decide), hw.out, hw1.out]
        rw [ih (i + 1) (by omega) (by omega) (k + 4) (by omega), List.drop_eq_getElem_cons hlt, hb0, validD_cons b0 _ hlow]
      · rw [validD_lead (W.drop i) hne (by rw [hg0]; omega), hg0]
        have hlead := lead_all ⟨b0.toNat, hb256⟩ (by show 128 ≤ b0.toNat; omega)
        simp only [] at hlead
        obtain ⟨lo, hlo⟩ : ∃ lo, accLo (firstT b0.toNat / 16) = lo := ⟨_, rfl⟩
        obtain ⟨hi', hhi⟩ : ∃ hi', accHi (firstT b0.toNat / 16) = hi' := ⟨_, rfl⟩
        have hlen : (W.drop i).length = W.length - i := List.length_drop
        have hm : moreP b0.toNat = if firstT b0.toNat % 8 = 2 then (1, (lo : Int), (hi' : Int)) else if firstT b0.toNat % 8 = 3 then (2, (lo : Int), (hi' : Int)) else if firstT b0.toNat % 8 = 4 then (3, (lo : Int), (hi' : Int)) else (-1, 0, 0) := by
          unfold moreP; rw [if_neg hlow, hlo, hhi]
        rw [hm, hlo, hhi, hlen]
        rw [hlo, hhi] at hlead
        by_cases s2 : firstT b0.toNat % 8 = 2
        · rw [if_pos s2, s2]
          obtain ⟨hl1, hl2⟩ := hlead (Or.inl s2)
          have hw := Aside0.mk (show wrap64 ((i : Int) + 1) = ((i + 1 : Nat) : Int) from by unfold wrap64; omega)
          simp only [checkN, if_true]
          rw [if_neg (by decide), hw.out]
          by_cases hr : i + 1 < W.length
          · rw [decide_eq_false (by omega), depotref21_Letters.j1, if_neg (by decide), getD_drop W i 1 hr]
            have e1 := go_first W i 1 lo hi' (k + 4) hW (by omega) hr hl1 hl2
            have e2 := go_end W i 1 lo hi' (k + 3) hW (by omega)
            have e3 := ih (i + 1 + 1) (by omega) (by omega) (k + 3) (by omega)
            simp only [Int.natCast_one] at e1 e2
            rw [e1]
            by_cases hc : W[i + 1].toNat < lo ∨ hi' < W[i + 1].toNat
            · rw [if_pos hc, if_pos (Or.inr hc)]
            · rw [if_neg hc, if_neg (by omega)]
              show _ = some (validD (List.drop _ (List.drop i W)))
              rw [List.drop_drop]
              exact e2.trans e3
          · rw [decide_eq_true (by omega), depotref21_Letters.j1, if_pos rfl, if_pos (by omega)]
        · rw [if_neg s2]
          by_cases s3 : firstT b0.toNat % 8 = 3
          · rw [if_pos s3, s3]
            obtain ⟨hl1, hl2⟩ := hlead (Or.inr (Or.inl s3))
            have hw := Aside0.mk (show wrap64 ((i : Int) + 2) = ((i + 2 : Nat) : Int) from by unfold wrap64; omega)
            simp only [checkN, if_true, if_neg (show ¬ (3 = 2) by decide)]
            rw [if_neg (by decide), hw.out]
            by_cases hr : i + 2 < W.length
            · rw [decide_eq_false (by omega), depotref21_Letters.j1, if_neg (by decide), getD_drop W i 1 (by omega), getD_drop W i 2 hr]
              have e1 := go_first W i 2 lo hi' (k + 4) hW (by omega) (by omega) hl1 hl2
              have e2 := go_next W i 2 lo hi' (k + 3) 2 hW (by omega) (by omega) hr
              have e3 := go_end W i 2 lo hi' (k + 2) hW (by omega)
              have e4 := ih (i + 2 + 1) (by omega) (by omega) (k + 2) (by omega)
              refine e1.trans ?_
              by_cases hc : W[i + 1].toNat < lo ∨ hi' < W[i + 1].toNat
              · rw [if_pos hc, if_pos (by omega)]
              · rw [if_neg hc]
                refine e2.trans ?_
                by_cases hc2 : W[i + 2].toNat < 128 ∨ 191 < W[i + 2].toNat
                · rw [if_pos hc2, if_pos (by omega)]
                · rw [if_neg hc2, if_neg (by omega)]
                  show _ = some (validD (List.drop _ (List.drop i W)))
                  rw [List.drop_drop]
                  exact e3.trans e4
            · rw [decide_eq_true (by omega), depotref21_Letters.j1, if_pos rfl, if_pos (by omega)]
          · rw [if_neg s3]
            by_cases s4 : firstT b0.toNat % 8 = 4
            · rw [if_pos s4, s4]
              obtain ⟨hl1, hl2⟩ := hlead (Or.inr (Or.inr s4))
              have hw := Aside0.mk (show wrap64 ((i : Int) + 3) = ((i + 3 : Nat) : Int) from by unfold wrap64; omega)
              simp only [checkN, if_true, if_neg (show ¬ (4 = 2) by decide), if_neg (show ¬ (4 = 3) by decide)]
              rw [if_neg (by decide), hw.out]
              by_cases hr : i + 3 < W.length
              · rw [decide_eq_false (by omega), depotref21_Letters.j1, if_neg (by decide), getD_drop W i 1 (by omega), getD_drop W i 2 (by omega), getD_drop W i 3 hr]
                have e1 := go_first W i 3 lo hi' (k + 4) hW (by omega) (by omega) hl1 hl2
                have e2 := go_next W i 3 lo hi' (k + 3) 2 hW (by omega) (by omega) (by omega)
                have e3 := go_next W i 3 lo hi' (k + 2) 3 hW (by omega) (by omega) hr
                have e4 := go_end W i 3 lo hi' (k + 1) hW (by omega)
                have e5 := ih (i + 3 + 1) (by omega) (by omega) (k + 1) (by omega)
                refine e1.trans ?_
                by_cases hc : W[i + 1].toNat < lo ∨ hi' < W[i + 1].toNat
                · rw [if_pos hc, if_pos (by omega)]
                · rw [if_neg hc]
                  refine e2.trans ?_
                  by_cases hc2 : W[i + 2].toNat < 128 ∨ 191 < W[i + 2].toNat
                  · rw [if_pos hc2, if_pos (by omega)]
                  · rw [if_neg hc2]
                    refine e3.trans ?_
                    by_cases hc3 : W[i + 3].toNat < 128 ∨ 191 < W[i + 3].toNat
                    · rw [if_pos hc3, if_pos (by omega)]
                    · rw [if_neg hc3, if_neg (by omega)]
                      show _ = some (validD (List.drop _ (List.drop i W)))
                      rw [List.drop_drop]
                      exact e4.trans e5
              · rw [decide_eq_true (by omega), depotref21_Letters.j1, if_pos rfl, if_pos (by omega)]
            · rw [if_neg s4]
              simp only [checkN, if_neg s2, if_neg s3, if_neg s4]
              rw [if_pos (by decide), depotref21_Letters.j1, if_pos rfl]
    · obtain ⟨k, rfl⟩ : ∃ k', k = k' + 1 := ⟨k - 1, by omega⟩
      rw [depotref21_Letters.l0, hs, if_neg (by omega), List.drop_of_length_le (by omega), validD_nil]
theorem letters_is (l : List UInt8) (hl : l.length ≤ 4398046511104) (k : Nat) (hk : l.length * 6 + 6 < k) : depotref21_Letters.f k (mkB l) = some (validD l) :=
  letters_go l hl l.length 0 (Nat.zero_le _) (by omega) k hk

end Go.Proofs.YtbaiglikmneicaaDoor.V
end
section
set_option linter.unusedVariables false
set_option maxHeartbeats 400000
set_option linter.unusedSimpArgs false
namespace Go.Proofs.YtbaiglikmneicaaDoor.V
open Go.RowKit Go.Lib Go.Proofs.YtbaiglikmneicaaDoorW.PrintWords Go.Proofs.YtbaiglikmneicaaDoorW.PrintLast Go.Proofs.YtbaiglikmneicaaDoorW.PrintMore
open Go.Proofs.YtbaiglikmneicaaDoor.R (mkB mkB_size mkB_extract mkB_data)
open Go.Proofs.YtbaiglikmneicaaDoor.C (okC fairL)
open Go.Proofs.YtbaiglikmneicaaDoor.P (trimC trimC_eq blankB blankB_iff drop_head last_drop)

/-! ### Fair -/
theorem okC_int (f : Bool) (c : UInt8) : okC f c = if (c.toNat : Int) = 127 then false else if (c.toNat : Int) < 32 then (if (c.toNat : Int) = 9 then true else f && decide ((c.toNat : Int) = 10)) else true := by
  have e : ∀ k : UInt8, (c == k) = decide ((c.toNat : Int) = (k.toNat : Int)) := fun k => by
    by_cases h : c = k
    · subst h; simp
    · rw [beq_eq_false_iff_ne.2 h, decide_eq_false (fun e => h (UInt8.toNat_inj.1 (by omega)))]
  unfold okC
  rw [e 9, e 10]
  have e127 : (c != 127) = !decide ((c.toNat : Int) = 127) := by show (!(c == 127)) = _; rw [e 127]; rfl
  rw [e127]
  have n9 : ((9 : UInt8).toNat : Int) = 9 := rfl
  have n10 : ((10 : UInt8).toNat : Int) = 10 := rfl
  rw [n9, n10]
  by_cases h1 : (c.toNat : Int) = 127
  · rw [if_pos h1, decide_eq_true h1]; simp
  · rw [if_neg h1, decide_eq_false h1]
    by_cases h2 : (c.toNat : Int) < 32
    · rw [if_pos h2, decide_eq_false (by omega : ¬ 32 ≤ c.toNat)]
      by_cases h3 : (c.toNat : Int) = 9
      · rw [if_pos h3, decide_eq_true h3]; simp
      · rw [if_neg h3, decide_eq_false h3]; simp
    · rw [if_neg h2, decide_eq_true (by omega : 32 ≤ c.toNat)]; simp
theorem fair_go (f : Bool) (W : List UInt8) (hW : W.length ≤ 4398046511104) : ∀ (d i : Nat), i ≤ W.length → W.length - i = d → ∀ k, d + W.length * 6 + 7 < k → depotref21_Fair.l0 k (mkB W) f (i : Int) = some ((W.drop i).all (okC f) && validD W) := by
  have hs : ((mkB W).size : Int) = (W.length : Int) := by rw [mkB_size]
  intro d
  induction d with
  | zero =>
    intro i hi hd k hk
    obtain ⟨k, rfl⟩ : ∃ k', k = k' + 1 := ⟨k - 1, by omega⟩
    rw [depotref21_Fair.l0, hs, if_neg (by omega), letters_is W hW k (by omega), List.drop_of_length_le (by omega)]
    simp
  | succ d ih =>
    intro i hi hd k hk
    obtain ⟨k, rfl⟩ : ∃ k', k = k' + 1 := ⟨k - 1, by omega⟩
    have hlt : i < W.length := by omega
    have hw := Aside0.mk (show wrap64 ((i : Int) + 1) = ((i + 1 : Nat) : Int) from by unfold wrap64; omega)
    rw [depotref21_Fair.l0, hs, if_pos (by omega), if_pos (by omega), bt_mk W i hlt, hw.out, ih (i + 1) (by omega) (by omega) k (by omega), List.drop_eq_getElem_cons hlt, List.all_cons, okC_int f W[i]]
    by_cases h1 : (W[i].toNat : Int) = 127
    · rw [if_pos h1, if_pos h1]; simp
    · rw [if_neg h1, if_neg h1]
      by_cases h2 : (W[i].toNat : Int) < 32
      · rw [if_pos h2, if_pos h2]
        by_cases h3 : (W[i].toNat : Int) = 9
        · rw [if_pos h3, if_pos h3]; simp
        · rw [if_neg h3, if_neg h3]
          cases f with
          | false => rw [if_neg (by decide)]; simp
          | true =>
            rw [if_pos rfl]
            by_cases h4 : (W[i].toNat : Int) = 10
            · rw [if_pos h4, decide_eq_true h4]; simp
            · rw [if_neg h4, decide_eq_false h4]; simp
      · rw [if_neg h2, if_neg h2]; simp
theorem fair_is (f : Bool) (l : List UInt8) (hl : l.length ≤ 4398046511104) (k : Nat) (hk : l.length * 7 + 7 < k) : depotref21_Fair.f k (mkB l) f = some (fairL f l) :=
  fair_go f l hl l.length 0 (Nat.zero_le _) (by omega) k (by omega)
end Go.Proofs.YtbaiglikmneicaaDoor.V
end
section
set_option linter.unusedVariables false
set_option linter.unusedSimpArgs false
namespace Go.Proofs.YtbaiglikmneicaaDoor.P
open Go.RowKit Go.Lib Go.Proofs.YtbaiglikmneicaaDoorW.PrintWords Go.Proofs.YtbaiglikmneicaaDoorW.PrintLast Go.Proofs.YtbaiglikmneicaaDoorW.PrintMore
open Go.Proofs.YtbaiglikmneicaaDoor.R (mkB mkB_size mkB_data mkB_extract pieces pieces_ne)
open Go.Proofs.YtbaiglikmneicaaDoor.C (fairL)

def glue (q : List UInt8) : List (List UInt8) → List (List UInt8)
  | [] => [q]
  | h :: t => (q ++ h) :: t
theorem glue_nil {P : List (List UInt8)} (h : P ≠ []) : glue [] P = P := by
  cases P with
  | nil => exact absurd rfl h
  | cons a t => rfl
theorem refpieces_go (W : List UInt8) (hW : W.length ≤ 4294967280) : ∀ (d i from_ : Nat) (acc : List ByteArray), i ≤ W.length → from_ ≤ i → W.length - i = d → acc.length + d ≤ 4294967290 → ∀ k, d < k → depotref21_Pieces.l0 k (mkB W) acc (from_ : Int) (i : Int) = some (acc ++ (glue ((W.drop from_).take (i - from_)) (pieces (W.drop i))).map mkB) := by
  have hs : ((mkB W).size : Int) = (W.length : Int) := by rw [mkB_size]
  intro d
  induction d with
  | zero =>
    intro i f acc hi hf hd ha k hk
    obtain ⟨k, rfl⟩ : ∃ k', k = k' + 1 := ⟨k - 1, by omega⟩
    rw [depotref21_Pieces.l0, hs, if_neg (by omega), if_pos (by omega), if_pos (by omega), if_pos (by omega), mkB_extract, mkB_size, Int.toNat_natCast, List.drop_of_length_le (show W.length ≤ i by omega), show i = W.length by omega]
    simp [pieces, glue]
  | succ d ih =>
    intro i f acc hi hf hd ha k hk
    obtain ⟨k, rfl⟩ : ∃ k', k = k' + 1 := ⟨k - 1, by omega⟩
    have hlt : i < W.length := by omega
    have hw := Aside0.mk (show wrap64 ((i : Int) + 1) = ((i + 1 : Nat) : Int) from by unfold wrap64; omega)
    rw [depotref21_Pieces.l0, hs, if_pos (by omega), if_pos (by omega), V.bt_mk W i hlt, hw.out, List.drop_eq_getElem_cons hlt, pieces]
    by_cases hb : W[i] = 10
    · rw [if_pos (by rw [hb]; rfl), if_pos (by omega), if_pos (by omega), if_pos (by omega), if_pos (by omega), if_pos hb, mkB_extract, Int.toNat_natCast, Int.toNat_natCast]
      rw [ih (i + 1) (i + 1) _ (by omega) (by omega) (by omega) (by rw [List.length_append]; simp; omega) k (by omega)]
      rw [Nat.sub_self, List.take_zero, glue_nil (pieces_ne _), glue, List.append_nil, List.map_cons, List.append_assoc]
      rfl
    · rw [if_neg (fun e => hb (UInt8.toNat_inj.1 (by show W[i].toNat = 10; omega))), if_neg hb]
      rw [ih (i + 1) f acc (by omega) (by omega) (by omega) (by omega) k (by omega)]
      have e1 : i + 1 - f = (i - f) + 1 := by omega
      have e2 : (W.drop f).take (i - f + 1) = (W.drop f).take (i - f) ++ [W[i]] := by
        have hl : i - f < (W.drop f).length := by rw [List.length_drop]; omega
        have h3 : (W.drop f)[i - f] = W[i] := by rw [List.getElem_drop]; congr 1; omega
        rw [List.take_add_one, List.getElem?_eq_getElem hl, h3]
        rfl
      rw [e1, e2]
      cases h : pieces (W.drop (i + 1)) with
      | nil => exact absurd h (pieces_ne _)
      | cons p ps => simp [glue]
theorem refpieces_is (W : List UInt8) (hW : W.length ≤ 4294967280) (k : Nat) (hk : W.length < k) : depotref21_Pieces.f k (mkB W) = some ((pieces W).map mkB) := by
  have h := refpieces_go W hW W.length 0 0 [] (Nat.zero_le _) (Nat.le_refl _) (by omega) (by simp; omega) k hk
  rw [List.drop_zero, Nat.sub_zero, List.take_zero, glue_nil (pieces_ne _), List.nil_append] at h
  exact h
def okAt (P : List (List UInt8)) (i : Nat) : Bool := if i = 0 then piecesOk P else (P.drop i).all innerP
theorem okAt_step (P : List (List UInt8)) (i : Nat) (h : i < P.length) : okAt P i = (trimmed P[i] && (decide (i = 0) || decide (P[i] ≠ [])) && okAt P (i + 1)) := by
  have e1 : okAt P (i + 1) = (P.drop (i + 1)).all innerP := by unfold okAt; rw [if_neg (by omega)]
  rw [e1]
  unfold okAt
  by_cases hi : i = 0
  · subst hi
    cases P with
    | nil => cases h
    | cons p r => simp [piecesOk]
  · rw [if_neg hi, List.drop_eq_getElem_cons h, List.all_cons, decide_eq_false hi, Bool.false_or]
    rfl
theorem okAt_end (P : List (List UInt8)) (h : P ≠ []) : okAt P P.length = true := by
  unfold okAt
  rw [if_neg (fun e => h (List.eq_nil_of_length_eq_zero e)), List.drop_length]
  rfl
theorem trim_len (p : List UInt8) : (trimC p).length = p.length ↔ trimC p = p := by
  constructor
  · intro h
    obtain ⟨x, y, e, _, _⟩ := trim_parts p
    have hl := congrArg List.length e
    rw [List.length_append, List.length_append] at hl
    have hx : x = [] := List.eq_nil_of_length_eq_zero (by omega)
    have hy : y = [] := List.eq_nil_of_length_eq_zero (by omega)
    rw [hx, hy, List.nil_append, List.append_nil] at e
    exact e.symm
  · intro h; rw [h]
def depotref21_value.f (a0 : ByteArray) : Option Bool := if a0.size ≤ 4294967280 then some (valueL a0.data.toList) else none
set_option maxHeartbeats 4000000 in
set_option maxRecDepth 100000 in
theorem refvalue_walk (s : ByteArray) (w : World) (hs : s.size ≤ 4294967280) :
    Calls Tryd.prog 39 #[.string s] w fun e w' => e = .returned (.bool (valueL s.data.toList)) ∧ Below w.heap.size w w' := by
  obtain ⟨L, hL⟩ : ∃ L, s.data.toList = L := ⟨_, rfl⟩
  have hsz : L.length = s.size := by rw [← hL]; exact (size_eq s).symm
  have hse : s = mkB L := by rw [← hL]; exact (mkB_data s).symm
  obtain ⟨P, hP⟩ : ∃ P, pieces L = P := ⟨_, rfl⟩
  have hpl := pieces_len L
  have hPf := Aside0.mk (refpieces_is L (by omega) (L.length + 1) (by omega))
  have hV : valueL L = (fairL true L && piecesOk P) := by unfold valueL; rw [hP]
  have HPN := Aside0.mk (show P ≠ [] from hP ▸ pieces_ne L)
  have HFA := Aside0.mk (V.fair_is true L (by omega) (L.length * 7 + 8) (by omega))
  rw [hP] at hpl hPf
  have hPl : P.length ≤ 4294967281 := by omega
  have HPM := Aside0.mk (show ∀ p ∈ P, p.length ≤ 4294967280 from fun p hp => by have := hpl.2 p hp; omega)
  have HV := Aside0.mk hV
  rw [hL]
  clear hpl hsz hP hV hL
  have HSE := Aside0.mk hse
  clear hse
  go_enter Tryd.func39, Tryd.ntmps39
  go_wp2_with fail
  refine (depotref21_Pieces.calls (L.length + 1) s (P.map mkB) _ (by rw [HSE.out]; exact hPf.out)).mono ?_
  rintro e w1 ⟨v1, rfl, hR, hb1⟩
  obtain ⟨A, c, rfl, hl, hC⟩ := Kd.R_reads hR
  rw [List.length_map] at hC hl
  have HC := Aside0.mk hC
  have HB1 := Aside0.mk hb1
  have HL := Aside0.mk hl
  clear hR hb1 hC hl
  rw [List.length_map]
  go_wp2_with fail
  go_loopw [4] (fun iv wr => ∃ i : Nat, i ≤ P.length ∧ iv = .int .i64 i ∧ Aside0 (okAt P i = piecesOk P) ∧ Aside0 (Below w1.heap.size w1 wr)) (fun iv _ => P.length - (RowKit.intOf iv).toNat)
  case atStart => exact ⟨0, Nat.zero_le _, rfl, ⟨rfl⟩, ⟨Below.refl _ _⟩⟩
  case round =>
    obtain ⟨i, hil, rfl, hO, hB⟩ := hrel
    have HBW := Aside0.mk (HB1.out.trans (hB.out.mono HB1.out.size))
    by_cases hlt : i < P.length
    · obtain ⟨ad, e2, hy⟩ := Kd.at_string (Kd.C_below HC.out hB.out) (i : Int) (by omega) (by omega)
      subst e2
      rw [rd_map P i hlt] at hy
      simp only [Int.toNat_natCast] at hy
      have hst := okAt_step P i hlt
      have hpm := HPM.out P[i] (List.getElem_mem hlt)
      obtain ⟨p, hp⟩ : ∃ p, P[i] = p := ⟨_, rfl⟩
      rw [hp] at hy hst hpm
      have hz1 : (mkB (trimC p)).size = (trimC p).length := mkB_size _
      have hz2 : (mkB p).size = p.length := mkB_size _
      have hlen := trim_len p
      have HT := Aside0.mk (V.trim_is p (by omega) (p.length + p.length + 3) (by omega))
      obtain ⟨t, ht⟩ : ∃ t, mkB (trimC p) = t := ⟨_, rfl⟩
      obtain ⟨q, hq⟩ : ∃ q, mkB p = q := ⟨_, rfl⟩
      rw [ht] at hz1 HT
      rw [hq] at hz2 HT hy
      have HST := Aside0.mk hst
      have htl : (trimC p).length ≤ p.length := by
        obtain ⟨x, y, e, _, _⟩ := trim_parts p
        have hl := congrArg List.length e
        rw [List.length_append, List.length_append] at hl
        omega
      clear hst ht hq hp
      have HY := Aside0.mk hy
      have hatl := World.block_lt_of_cell? _ _ hy
      go_wp2_with fail
      by_cases hte : (trimC p).length = p.length
      · have cz : ((t.size : Int) != (q.size : Int)) = false := by rw [hz1, hz2, hte]; simp
        have cz2 : (t.size == q.size) = true := by rw [hz1, hz2, hte]; simp
        have htr : trimmed p = true := by unfold trimmed; exact decide_eq_true (hlen.1 hte)
        rw [htr, Bool.true_and] at HST
        by_cases hi0 : i = 0
        · have ci : decide (0 < i) = false := decide_eq_false (by omega)
          rw [decide_eq_true hi0, Bool.true_or, Bool.true_and] at HST
          clear hi0
          repeat (go_quiet (first | (go_at_call 35; (with_reducible refine (V.depotref21_Trim.calls _ q t _ HT.out).mono ?_); rintro e w' ⟨rfl, ⟨nd, rfl⟩⟩; (try first | exact ⟨rfl, _, World.drewN_drewN _ _ _⟩ | exact ⟨rfl, _, Eq.trans (World.drewN_drewN _ _ _) (congrArg (World.drewN _) (Nat.add_assoc _ _ _))⟩))); try go_wp2_with fail)
          go_roundw
          case rel => exact ⟨i + 1, by omega, by go_num, ⟨HST.out ▸ hO.out⟩, ⟨by repeat (first | (with_reducible first | exact hB.out | apply below_alloc | apply pw_below_drewN | apply below_drew1) | exact hB.out)⟩⟩
          case measure => simp [RowKit.intOf]; omega
        · have ci : decide (0 < i) = true := decide_eq_true (by omega)
          by_cases hp0 : p = []
          · have cq : ((q.size : Int) == 0) = true := by rw [hz2, hp0]; rfl
            have cq2 : q.size = 0 := by rw [hz2, hp0]; rfl
            have hv : valueL L = false := by
              rw [HV.out, ← hO.out, HST.out, decide_eq_false hi0, decide_eq_false (fun h => h hp0)]; simp
            repeat (go_quiet (first | (go_at_call 35; (with_reducible refine (V.depotref21_Trim.calls _ q t _ HT.out).mono ?_); rintro e w' ⟨rfl, ⟨nd, rfl⟩⟩; (try first | exact ⟨rfl, _, World.drewN_drewN _ _ _⟩ | exact ⟨rfl, _, Eq.trans (World.drewN_drewN _ _ _) (congrArg (World.drewN _) (Nat.add_assoc _ _ _))⟩))); try go_wp2_with fail)
            go_ret
            exact ⟨by rw [hv] <;> rfl, by repeat (first | (with_reducible first | exact HBW.out | apply below_alloc | apply pw_below_drewN | apply below_drew1) | exact HBW.out)⟩
          · have cq : ((q.size : Int) == 0) = false := beq_eq_false_iff_ne.2 (fun e => hp0 (List.eq_nil_of_length_eq_zero (by omega)))
            rw [decide_eq_true hp0, Bool.or_true, Bool.true_and] at HST
            have cq2 : ¬ q.size = 0 := fun e => hp0 (List.eq_nil_of_length_eq_zero (by omega))
            clear hp0
            repeat (go_quiet (first | (go_at_call 35; (with_reducible refine (V.depotref21_Trim.calls _ q t _ HT.out).mono ?_); rintro e w' ⟨rfl, ⟨nd, rfl⟩⟩; (try first | exact ⟨rfl, _, World.drewN_drewN _ _ _⟩ | exact ⟨rfl, _, Eq.trans (World.drewN_drewN _ _ _) (congrArg (World.drewN _) (Nat.add_assoc _ _ _))⟩))); try go_wp2_with fail)
            go_roundw
            case rel => exact ⟨i + 1, by omega, by go_num, ⟨HST.out ▸ hO.out⟩, ⟨by repeat (first | (with_reducible first | exact hB.out | apply below_alloc | apply pw_below_drewN | apply below_drew1) | exact hB.out)⟩⟩
            case measure => simp [RowKit.intOf]; omega
      · have cz : ((t.size : Int) != (q.size : Int)) = true := bne_iff_ne.2 (by omega)
        have cz2 : (t.size == q.size) = false := beq_eq_false_iff_ne.2 (by omega)
        have htr : trimmed p = false := by unfold trimmed; exact decide_eq_false (fun e => hte (hlen.2 e))
        have hv : valueL L = false := by
          rw [HV.out, ← hO.out, HST.out, htr]; simp
        clear hlen hte hz1 hz2 htl
        repeat (go_quiet (first | (go_at_call 35; (with_reducible refine (V.depotref21_Trim.calls _ q t _ HT.out).mono ?_); rintro e w' ⟨rfl, ⟨nd, rfl⟩⟩; (try first | exact ⟨rfl, _, World.drewN_drewN _ _ _⟩ | exact ⟨rfl, _, Eq.trans (World.drewN_drewN _ _ _) (congrArg (World.drewN _) (Nat.add_assoc _ _ _))⟩))); try go_wp2_with fail)
        go_ret
        exact ⟨by rw [hv] <;> rfl, by repeat (first | (with_reducible first | exact HBW.out | apply below_alloc | apply pw_below_drewN | apply below_drew1) | exact HBW.out)⟩
    · obtain rfl : i = P.length := by omega
      rw [okAt_end P HPN.out] at hO
      have hv : valueL L = fairL true L := by rw [HV.out, ← hO.out, Bool.and_true]
      go_wp2_with fail
      refine (V.depotref21_Fair.calls _ s true (fairL true L) _ (by rw [HSE.out]; exact HFA.out)).mono ?_
      rintro e w6 ⟨rfl, hd6⟩
      have HB6 := Aside0.mk (HBW.out.trans (hd6.below.mono HBW.out.size))
      clear hd6
      go_wp2_with fail
      go_ret
      exact ⟨by rw [hv] <;> rfl, HB6.out⟩
theorem depotref21_value.calls (a0 : ByteArray) (r : Bool) (w : World) (h : depotref21_value.f a0 = some r) :
    Calls Tryd.prog 39 #[.string a0] w fun e w' => e = .returned (.bool r) ∧ Below w.heap.size w w' := by
  unfold depotref21_value.f at h
  by_cases hs : a0.size ≤ 4294967280
  · rw [if_pos hs] at h
    obtain rfl := Option.some.inj h
    exact refvalue_walk a0 w hs
  · rw [if_neg hs] at h
    cases h
end Go.Proofs.YtbaiglikmneicaaDoor.P
end
