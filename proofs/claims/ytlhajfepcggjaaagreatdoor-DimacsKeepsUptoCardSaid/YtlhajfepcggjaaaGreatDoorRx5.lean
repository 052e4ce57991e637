/- Lean functions of the Go functions that the laws of this seat reach, and the proof that each call comes to them: written by a program of this session (wip/printx.sh) over the kit's print. No conditions. -/
import Derived.Test.YtlhajfepcggjaaaGreatDoorRx0
namespace Go.Proofs.YtlhajfepcggjaaaGreatDoor.R
open Go.RowKit Go.Proofs.YtlhajfepcggjaaaGreatDoorW.PrintWords Go.Proofs.YtlhajfepcggjaaaGreatDoorW.PrintLast Go.Proofs.YtlhajfepcggjaaaGreatDoorW.PrintMore
attribute [local go_sem] max2_int min2_int max_two min_two max_three min_three max_four min_four   -- for this text's walks alone
set_option linter.unusedVariables false
set_option linter.unusedSimpArgs false

/-! ### depotref03_Tens: function 50 -/
mutual
def depotref03_Tens.j0 : Nat → ByteArray → ByteArray → Bool → Option (Bool)
 | 0, _, _, _ => none
 | k + 1, x0, x3, x13 => if x13 = true then (if 1 ≤ (x0.size : Int) then (if (x0.extract 1 x0.size).toList = ([48] : List UInt8) then (some false) else (depotref03_Tens.j1 k (x0.extract 1 x0.size))) else (none)) else (depotref03_Tens.j1 k x3)
def depotref03_Tens.j1 : Nat → ByteArray → Option (Bool)
 | 0, _ => none
 | k + 1, x3 => if (x3.size : Int) = 0 then (depotref03_Tens.j2 k x3 true) else (if (x3.size : Int) > 1 then (if 0 < (x3.size : Int) then (depotref03_Tens.j2 k x3 ((bt x3 0) == 48)) else (none)) else (depotref03_Tens.j2 k x3 false))
def depotref03_Tens.j2 : Nat → ByteArray → Bool → Option (Bool)
 | 0, _, _ => none
 | k + 1, x3, x30 => if x30 = true then (some false) else (depotref03_Tens.l0 k x3 0)
def depotref03_Tens.l0 : Nat → ByteArray → Int → Option (Bool)
 | 0, _, _ => none
 | k + 1, x3, x4 => if x4 < (x3.size : Int) then (if 0 ≤ x4 then (if (bt x3 x4) < 48 then (some false) else (if (bt x3 x4) > 57 then (some false) else (depotref03_Tens.l0 k x3 (wrap64 (x4 + 1))))) else (none)) else (some true)
end
def depotref03_Tens.f (k : Nat) (a0 : ByteArray) : Option (Bool) := if (a0.size : Int) > 0 then (if 0 < (a0.size : Int) then (depotref03_Tens.j0 k a0 a0 ((bt a0 0) == 45)) else (none)) else (depotref03_Tens.j0 k a0 a0 false)
set_option maxHeartbeats 8000000 in
set_option maxRecDepth 100000 in
theorem depotref03_Tens.calls (k : Nat) (a0 : ByteArray) (r : Bool) (w : World) (h : depotref03_Tens.f k a0 = some r) :
  Calls Tryz.prog 50 #[.string a0] w fun e w' => e = .returned (.bool r) ∧ Drawn0 w w' := by
 have H : (if (a0.size : Int) > 0 then (if 0 < (a0.size : Int) then (depotref03_Tens.j0 k a0 a0 ((bt a0 0) == 45)) else (none)) else (depotref03_Tens.j0 k a0 a0 false)) = some r := h
 clear h
 have HC2 := Aside0.mk H
 clear H
 go_enter Tryz.func50, Tryz.ntmps50
 go_upto_region 2 with (fail)
 go_cut [13] (fun v13 wc => ∃ (kq : Nat) (x13_1 : Bool), v13 = .bool x13_1 ∧ Aside0 (depotref03_Tens.j0 kq a0 a0 x13_1 = some r) ∧ Aside0 (kq ≤ k) ∧ Drawn0 w wc)
 case first =>
  have H := HC2.out
  clear HC2
  by_cases c3 : (a0.size : Int) > 0
  ·rw [if_pos c3] at H
   have c3b0 : decide (0 < (a0.size : Int)) = true := decide_eq_true c3
   have c3b1 : decide (0 < a0.size) = true := decide_eq_true (by omega)
   clear c3
   (skip)
   by_cases c4 : 0 < (a0.size : Int)
   ·rw [if_pos c4] at H
    have c4b0 : decide (0 < (a0.size : Int)) = true := decide_eq_true c4
    have c4b1 : decide (0 < a0.size) = true := decide_eq_true (by omega)
    clear c4
    have H' := Aside0.mk H
    clear H
    have p5 : 0 ≤ (0 : Int) := (by omega)
    have q5 : 0 < a0.size := (by have : (0 : Int) < (a0.size : Int) := of_decide_eq_true (by (with_reducible assumption)); omega)
    have hx5 : ∀ h : 0 < a0.size, ((a0[0]'h).toNat : Int) = bt a0 0 := bt_at a0 0
    clear p5
    have qi5 : (0 < (a0.size : Int)) = True := eq_true (of_decide_eq_true (by (with_reducible assumption)))
    replace q5 := eq_true q5
    go_wp2
    go_meet
    case rel => exact ⟨_, (((bt a0 0) == 45)), (by rfl), H', ⟨by omega⟩, by repeat (exact Drawn0.refl _)⟩
   ·rw [if_neg c4] at H
    exact absurd H (by simp)
  ·rw [if_neg c3] at H
   have c3b0 : decide (0 < (a0.size : Int)) = false := decide_eq_false c3
   have c3b1 : decide (0 < a0.size) = false := decide_eq_false (by omega)
   clear c3
   (skip)
   have H' := Aside0.mk H
   clear H
   go_wp2
   go_meet
   case rel => exact ⟨_, (false), (by rfl), H', ⟨by omega⟩, by repeat (exact Drawn0.refl _)⟩
 case rest =>
  clear HC2
  try clear p2
  try clear c3
  try clear c3b0
  try clear c3b1
  try clear c4
  try clear c4b0
  try clear c4b1
  try clear c5
  try clear p5
  try clear q5
  try clear hx5
  try clear qi5
  try clear p5
  try clear q5
  obtain ⟨kq, x13_1, rfl, HA, HJ1, ⟨mc1, rfl⟩⟩ := hcut
  cases kq with
  | zero => exact absurd HA.out (by simp [depotref03_Tens.j0])
  | succ kj1 =>
   have H := HA.out
   clear HA
   simp only [depotref03_Tens.j0] at H
   have HC6 := Aside0.mk H
   clear H
   go_upto_if 13 with (fail)
   go_cut [3] (fun v3 wc => ∃ (kq : Nat) (x3_5 : ByteArray), v3 = .string x3_5 ∧ Aside0 (depotref03_Tens.j1 kq x3_5 = some r) ∧ Aside0 (kq ≤ kj1) ∧ Drawn0 w wc)
   case first =>
    have H := HC6.out
    clear HC6
    by_cases c7 : x13_1 = true
    ·subst c7
     have H1 : (if 1 ≤ (a0.size : Int) then (if (a0.extract 1 a0.size).toList = ([48] : List UInt8) then (some false) else (depotref03_Tens.j1 kj1 (a0.extract 1 a0.size))) else (none)) = some r := by rw [if_pos rfl] at H; exact H
     clear H
     have H := H1
     clear H1
     by_cases c8 : 1 ≤ (a0.size : Int)
     ·rw [if_pos c8] at H
      have c8b0 := eq_true c8
      have c8b1 : decide (1 ≤ (a0.size : Int)) = true := decide_eq_true c8
      clear c8
      by_cases c9 : (a0.extract 1 a0.size).toList = ([48] : List UInt8)
      ·rw [if_pos c9] at H
       have c9b0 : ((a0.extract 1 a0.size).toList == ([48] : List UInt8)) = true := beq_iff_eq.mpr c9
       have c9b1 : ((a0.extract 1 a0.size).toList != ([48] : List UInt8)) = false := bne_eq_false_iff_eq.mpr c9
       clear c9
       (skip)
       obtain rfl := Option.some.inj H
       go_wp2
       go_ret
       exact ⟨by rfl, by repeat (first | exact Drawn0.refl _ | apply Drawn0.step)⟩
      ·rw [if_neg c9] at H
       have c9b0 : ((a0.extract 1 a0.size).toList == ([48] : List UInt8)) = false := beq_eq_false_iff_ne.mpr c9
       have c9b1 : ((a0.extract 1 a0.size).toList != ([48] : List UInt8)) = true := bne_iff_ne.mpr c9
       (skip)
       have H' := Aside0.mk H
       clear H
       go_wp2
       go_meet
       case rel => exact ⟨_, (a0.extract 1 a0.size), (by rfl), H', ⟨by have := HJ1.out; omega⟩, by repeat (first | exact Drawn0.refl _ | apply Drawn0.step)⟩
     ·rw [if_neg c8] at H
      exact absurd H (by simp)
    ·replace c7 := Bool.eq_false_iff.mpr c7
     subst c7
     have H1 : (depotref03_Tens.j1 kj1 a0) = some r := by rw [if_neg (show ¬ (false = true) by decide)] at H; exact H
     clear H
     have H := H1
     clear H1
     have H' := Aside0.mk H
     clear H
     go_wp2
     go_meet
     case rel => exact ⟨_, (a0), (by rfl), H', ⟨by have := HJ1.out; omega⟩, by repeat (first | exact Drawn0.refl _ | apply Drawn0.step)⟩
   case rest =>
    clear HC6
    try clear c1
    try clear p2
    try clear c3
    try clear c3b0
    try clear c3b1
    try clear c4
    try clear c4b0
    try clear c4b1
    try clear c5
    try clear p5
    try clear q5
    try clear hx5
    try clear qi5
    try clear c7
    try clear c8
    try clear c8b0
    try clear c8b1
    try clear c9
    try clear c9b0
    try clear c9b1
    try clear p2
    try clear p5
    try clear q5
    obtain ⟨kq, x3_5, rfl, HA, HJ5, ⟨mc5, rfl⟩⟩ := hcut
    cases kq with
    | zero => exact absurd HA.out (by simp [depotref03_Tens.j1])
    | succ kj5 =>
     have H := HA.out
     clear HA
     simp only [depotref03_Tens.j1] at H
     have HC10 := Aside0.mk H
     clear H
     go_upto_region 6 with (fail)
     go_cut [30] (fun v30 wc => ∃ (kq : Nat) (x30_9 : Bool), v30 = .bool x30_9 ∧ Aside0 (depotref03_Tens.j2 kq x3_5 x30_9 = some r) ∧ Aside0 (kq ≤ kj5) ∧ Drawn0 w wc)
     case first =>
      have H := HC10.out
      clear HC10
      by_cases c11 : (x3_5.size : Int) = 0
      ·rw [if_pos c11] at H
       have c11b0 : ((x3_5.size : Int) == 0) = true := beq_iff_eq.mpr c11
       have c11b1 : ((x3_5.size : Int) != 0) = false := bne_eq_false_iff_eq.mpr c11
       clear c11
       (skip)
       have H' := Aside0.mk H
       clear H
       go_wp2
       go_meet
       case rel => exact ⟨_, (true), (by rfl), H', ⟨by have := HJ1.out; have := HJ5.out; omega⟩, by repeat (first | exact Drawn0.refl _ | apply Drawn0.step)⟩
      ·rw [if_neg c11] at H
       have c11b0 : ((x3_5.size : Int) == 0) = false := beq_eq_false_iff_ne.mpr c11
       have c11b1 : ((x3_5.size : Int) != 0) = true := bne_iff_ne.mpr c11
       (skip)
       by_cases c12 : (x3_5.size : Int) > 1
       ·rw [if_pos c12] at H
        have c12b0 : decide (1 < (x3_5.size : Int)) = true := decide_eq_true c12
        have c12b1 : decide (1 < x3_5.size) = true := decide_eq_true (by omega)
        clear c12
        by_cases c13 : 0 < (x3_5.size : Int)
        ·rw [if_pos c13] at H
         have c13b0 : decide (0 < (x3_5.size : Int)) = true := decide_eq_true c13
         have c13b1 : decide (0 < x3_5.size) = true := decide_eq_true (by omega)
         clear c13
         have H' := Aside0.mk H
         clear H
         have p14 : 0 ≤ (0 : Int) := (by omega)
         have q14 : 0 < x3_5.size := (by have : (0 : Int) < (x3_5.size : Int) := of_decide_eq_true (by (with_reducible assumption)); omega)
         have hx14 : ∀ h : 0 < x3_5.size, ((x3_5[0]'h).toNat : Int) = bt x3_5 0 := bt_at x3_5 0
         clear p14
         have qi14 : (0 < (x3_5.size : Int)) = True := eq_true (of_decide_eq_true (by (with_reducible assumption)))
         replace q14 := eq_true q14
         go_wp2
         go_meet
         case rel => exact ⟨_, (((bt x3_5 0) == 48)), (by rfl), H', ⟨by have := HJ1.out; have := HJ5.out; omega⟩, by repeat (first | exact Drawn0.refl _ | apply Drawn0.step)⟩
        ·rw [if_neg c13] at H
         exact absurd H (by simp)
       ·rw [if_neg c12] at H
        have c12b0 : decide (1 < (x3_5.size : Int)) = false := decide_eq_false c12
        have c12b1 : decide (1 < x3_5.size) = false := decide_eq_false (by omega)
        clear c12
        have H' := Aside0.mk H
        clear H
        go_wp2
        go_meet
        case rel => exact ⟨_, (false), (by rfl), H', ⟨by have := HJ1.out; have := HJ5.out; omega⟩, by repeat (first | exact Drawn0.refl _ | apply Drawn0.step)⟩
     case rest =>
      clear HC10
      try clear c1
      try clear p1
      try clear q1
      try clear hx1
      try clear qi1
      try clear p2
      try clear c3
      try clear c3b0
      try clear c3b1
      try clear c4
      try clear c4b0
      try clear c4b1
      try clear c5
      try clear p5
      try clear q5
      try clear hx5
      try clear qi5
      try clear c7
      try clear c8
      try clear c8b0
      try clear c8b1
      try clear c9
      try clear c9b0
      try clear c9b1
      try clear c11
      try clear c11b0
      try clear c11b1
      try clear c12
      try clear c12b0
      try clear c12b1
      try clear c13
      try clear c13b0
      try clear c13b1
      try clear p14
      try clear q14
      try clear hx14
      try clear qi14
      try clear p14
      try clear p2
      try clear p5
      try clear q14
      try clear q5
      obtain ⟨kq, x30_9, rfl, HA, HJ9, ⟨mc9, rfl⟩⟩ := hcut
      cases kq with
      | zero => exact absurd HA.out (by simp [depotref03_Tens.j2])
      | succ kj9 =>
       have H := HA.out
       clear HA
       simp only [depotref03_Tens.j2] at H
       by_cases c15 : x30_9 = true
       ·subst c15
        have H1 : (some false) = some r := by rw [if_pos rfl] at H; exact H
        clear H
        have H := H1
        clear H1
        obtain rfl := Option.some.inj H
        go_wp2
        go_ret
        exact ⟨by rfl, by repeat (first | exact Drawn0.refl _ | apply Drawn0.step)⟩
       ·replace c15 := Bool.eq_false_iff.mpr c15
        subst c15
        have H1 : (depotref03_Tens.l0 kj9 x3_5 0) = some r := by rw [if_neg (show ¬ (false = true) by decide)] at H; exact H
        clear H
        have H := H1
        clear H1
        have H' := Aside0.mk H
        clear H
        go_wp2
        go_loopg [4] kj9 (fun kq v4 w' => ∃ (x4_4 : Int), v4 = .int .i64 x4_4 ∧ Aside0 (depotref03_Tens.l0 kq x3_5 x4_4 = some r) ∧ Aside0 (kq ≤ kj9) ∧ Drawn0 w w')
        case atStart => exact ⟨(0), (by rfl), H', ⟨Nat.le_refl _⟩, by repeat (first | exact Drawn0.refl _ | apply Drawn0.step)⟩
        case round =>
         clear H'
         try clear c1
         try clear p1
         try clear q1
         try clear hx1
         try clear qi1
         try clear p2
         try clear c3
         try clear c3b0
         try clear c3b1
         try clear c4
         try clear c4b0
         try clear c4b1
         try clear c5
         try clear p5
         try clear q5
         try clear hx5
         try clear qi5
         try clear c7
         try clear c8
         try clear c8b0
         try clear c8b1
         try clear c9
         try clear c9b0
         try clear c9b1
         try clear c11
         try clear c11b0
         try clear c11b1
         try clear c12
         try clear c12b0
         try clear c12b1
         try clear c13
         try clear c13b0
         try clear c13b1
         try clear p14
         try clear q14
         try clear hx14
         try clear qi14
         try clear c15
         try clear p1
         try clear p14
         try clear p2
         try clear p5
         try clear q1
         try clear q14
         try clear q5
         obtain ⟨x4_4, rfl, HA, HK4, ⟨m4, rfl⟩⟩ := hrel
         cases gk with
         | zero => exact absurd HA.out (by simp [depotref03_Tens.l0])
         | succ k4 =>
          have H := HA.out
          clear HA
          simp only [depotref03_Tens.l0] at H
          by_cases c16 : x4_4 < (x3_5.size : Int)
          ·rw [if_pos c16] at H
           have c16b0 : decide (x4_4 < (x3_5.size : Int)) = true := decide_eq_true c16
           clear c16
           by_cases c17 : 0 ≤ x4_4
           ·rw [if_pos c17] at H
            have c17b0 : decide (0 ≤ x4_4) = true := decide_eq_true c17
            clear c17
            by_cases c19 : (bt x3_5 x4_4) < 48
            ·rw [if_pos c19] at H
             have c19b0 : decide ((bt x3_5 x4_4) < 48) = true := decide_eq_true c19
             clear c19
             obtain rfl := Option.some.inj H
             have p18 : 0 ≤ (x4_4 : Int) := of_decide_eq_true (by (with_reducible assumption))
             have q18 : x4_4 < (x3_5.size : Int) := of_decide_eq_true (by (with_reducible assumption))
             have hx18 := bt_at x3_5 x4_4
             replace p18 := eq_true p18
             replace q18 := eq_true q18
             go_wp2
             go_ret
             exact ⟨by rfl, by repeat (first | exact Drawn0.refl _ | apply Drawn0.step)⟩
            ·rw [if_neg c19] at H
             have c19b0 : decide ((bt x3_5 x4_4) < 48) = false := decide_eq_false c19
             clear c19
             by_cases c21 : (bt x3_5 x4_4) > 57
             ·rw [if_pos c21] at H
              have c21b0 : decide (57 < (bt x3_5 x4_4)) = true := decide_eq_true c21
              clear c21
              obtain rfl := Option.some.inj H
              have p18 : 0 ≤ (x4_4 : Int) := of_decide_eq_true (by (with_reducible assumption))
              have q18 : x4_4 < (x3_5.size : Int) := of_decide_eq_true (by (with_reducible assumption))
              have hx18 := bt_at x3_5 x4_4
              replace p18 := eq_true p18
              replace q18 := eq_true q18
              have p20 : 0 ≤ (x4_4 : Int) := of_decide_eq_true (by (with_reducible assumption))
              have q20 : x4_4 < (x3_5.size : Int) := of_decide_eq_true (by (with_reducible assumption))
              have hx20 := bt_at x3_5 x4_4
              replace p20 := eq_true p20
              replace q20 := eq_true q20
              go_wp2
              go_ret
              exact ⟨by rfl, by repeat (first | exact Drawn0.refl _ | apply Drawn0.step)⟩
             ·rw [if_neg c21] at H
              have c21b0 : decide (57 < (bt x3_5 x4_4)) = false := decide_eq_false c21
              clear c21
              have H' := Aside0.mk H
              clear H
              have p18 : 0 ≤ (x4_4 : Int) := of_decide_eq_true (by (with_reducible assumption))
              have q18 : x4_4 < (x3_5.size : Int) := of_decide_eq_true (by (with_reducible assumption))
              have hx18 := bt_at x3_5 x4_4
              replace p18 := eq_true p18
              replace q18 := eq_true q18
              have p20 : 0 ≤ (x4_4 : Int) := of_decide_eq_true (by (with_reducible assumption))
              have q20 : x4_4 < (x3_5.size : Int) := of_decide_eq_true (by (with_reducible assumption))
              have hx20 := bt_at x3_5 x4_4
              replace p20 := eq_true p20
              replace q20 := eq_true q20
              go_wp2
              go_roundg k4
              case measure => have := HJ1.out; have := HJ5.out; have := HJ9.out; have := HK4.out; omega
              case rel => exact ⟨(wrap64 (x4_4 + 1)), (by rfl), H', ⟨by have := HJ1.out; have := HJ5.out; have := HJ9.out; have := HK4.out; omega⟩, by repeat (first | exact Drawn0.refl _ | apply Drawn0.step)⟩
           ·rw [if_neg c17] at H
            exact absurd H (by simp)
          ·rw [if_neg c16] at H
           have c16b0 : decide (x4_4 < (x3_5.size : Int)) = false := decide_eq_false c16
           clear c16
           obtain rfl := Option.some.inj H
           go_wp2
           go_ret
           exact ⟨by rfl, by repeat (first | exact Drawn0.refl _ | apply Drawn0.step)⟩

/-! ### depotref03_heading: function 68 -/
def depotref03_heading.l0 : Nat → List (S84) → Int → Option (Int)
 | 0, _, _ => none
 | k + 1, x0, x3 => if x3 < (x0.length : Int) then (if 0 ≤ x3 then (if 0 < (x0.length : Int) then (if ((rd_T84 x0 x3).f1) = ((rd_T84 x0 0).f1) then (depotref03_heading.l0 k x0 (wrap64 (x3 + 1))) else (some x3)) else (none)) else (none)) else (some x3)
def depotref03_heading.f (k : Nat) (l0 : List (S84)) : Option (Int) := depotref03_heading.l0 k l0 0
set_option maxHeartbeats 8000000 in
set_option maxRecDepth 100000 in
theorem depotref03_heading.calls (k : Nat) (A0 : Option Addr) (c0 : Nat) (l0 : List (S84)) (r : Int) (w : World) (hr0 : Kd.C k84 w A0 l0.length l0) (hc0 : l0.length ≤ c0) (h : depotref03_heading.f k l0 = some r) :
  Calls Tryz.prog 68 #[.slice A0 l0.length c0] w fun e w' => e = .returned (.int .i64 r) ∧ Drawn0 w w' := by
 have HR0 := Aside0.mk hr0
 have HC0 := Aside0.mk hc0
 clear hr0 hc0
 have H : (depotref03_heading.l0 k l0 0) = some r := h
 clear h
 have H' := Aside0.mk H
 clear H
 go_enter Tryz.func68, Tryz.ntmps68
 go_wp2
 go_loopg [3] k (fun kq v3 w' => ∃ (x3_1 : Int), v3 = .int .i64 x3_1 ∧ Aside0 (depotref03_heading.l0 kq l0 x3_1 = some r) ∧ Aside0 (kq ≤ k) ∧ Drawn0 w w')
 case atStart => exact ⟨(0), (by rfl), H', ⟨Nat.le_refl _⟩, by repeat (exact Drawn0.refl _)⟩
 case round =>
  clear H'
  obtain ⟨x3_1, rfl, HA, HK1, ⟨m1, rfl⟩⟩ := hrel
  cases gk with
  | zero => exact absurd HA.out (by simp [depotref03_heading.l0])
  | succ k1 =>
   have H := HA.out
   clear HA
   simp only [depotref03_heading.l0] at H
   by_cases c2 : x3_1 < (l0.length : Int)
   ·rw [if_pos c2] at H
    have c2b0 : decide (x3_1 < (l0.length : Int)) = true := decide_eq_true c2
    clear c2
    by_cases c3 : 0 ≤ x3_1
    ·rw [if_pos c3] at H
     have c3b0 : decide (0 ≤ x3_1) = true := decide_eq_true c3
     clear c3
     by_cases c4 : 0 < (l0.length : Int)
     ·rw [if_pos c4] at H
      have c4b0 : decide (0 < (l0.length : Int)) = true := decide_eq_true c4
      have c4b1 : decide (0 < l0.length) = true := decide_eq_true (by omega)
      clear c4
      by_cases c5 : ((rd_T84 l0 x3_1).f1) = ((rd_T84 l0 0).f1)
      ·rw [if_pos c5] at H
       have c5b0 : (((rd_T84 l0 x3_1).f1) == ((rd_T84 l0 0).f1)) = true := beq_iff_eq.mpr c5
       have c5b1 : (((rd_T84 l0 x3_1).f1) != ((rd_T84 l0 0).f1)) = false := bne_eq_false_iff_eq.mpr c5
       clear c5
       have H' := Aside0.mk H
       clear H
       have p182 : 0 ≤ (x3_1 : Int) := of_decide_eq_true (by (with_reducible assumption))
       have q182 : x3_1 < (l0.length : Int) := of_decide_eq_true (by (with_reducible assumption))
       obtain ⟨ad182, e182, hx182_0, hx182_1⟩ := at_T84 HR0.out x3_1 p182 q182
       cases e182
       replace p182 := eq_true p182
       replace q182 := eq_true q182
       have p183 : 0 ≤ (0 : Int) := (by omega)
       have q183 : 0 < (l0.length : Int) := of_decide_eq_true (by (with_reducible assumption))
       obtain ⟨ad183, e183, hx183_0, hx183_1⟩ := at_T84 HR0.out 0 p183 q183
       obtain rfl : ad182 = ad183 := (by injection e183)
       have qi183 : (0 < l0.length) = True := eq_true (by omega)
       (try rw [show ((0 : Int)).toNat = 0 from rfl] at hx183_0)
       (try rw [show 0 * 2 = 0 from rfl] at hx183_0)
       (try rw [Addr.add_zero'] at hx183_0)
       (try rw [show ((0 : Int)).toNat = 0 from rfl] at hx183_1)
       (try rw [show 0 * 2 = 0 from rfl] at hx183_1)
       (try rw [Addr.add_zero'] at hx183_1)
       replace p183 := eq_true p183
       replace q183 := eq_true q183
       go_wp2
       repeat (go_quiet (fail); try go_wp2)
       go_roundg k1
       case measure => have := HK1.out; omega
       case rel => exact ⟨(wrap64 (x3_1 + 1)), (by rfl), H', ⟨by have := HK1.out; omega⟩, by repeat (first | exact Drawn0.refl _ | apply Drawn0.step)⟩
      ·rw [if_neg c5] at H
       have c5b0 : (((rd_T84 l0 x3_1).f1) == ((rd_T84 l0 0).f1)) = false := beq_eq_false_iff_ne.mpr c5
       have c5b1 : (((rd_T84 l0 x3_1).f1) != ((rd_T84 l0 0).f1)) = true := bne_iff_ne.mpr c5
       obtain rfl := Option.some.inj H
       have p182 : 0 ≤ (x3_1 : Int) := of_decide_eq_true (by (with_reducible assumption))
       have q182 : x3_1 < (l0.length : Int) := of_decide_eq_true (by (with_reducible assumption))
       obtain ⟨ad182, e182, hx182_0, hx182_1⟩ := at_T84 HR0.out x3_1 p182 q182
       cases e182
       replace p182 := eq_true p182
       replace q182 := eq_true q182
       have p183 : 0 ≤ (0 : Int) := (by omega)
       have q183 : 0 < (l0.length : Int) := of_decide_eq_true (by (with_reducible assumption))
       obtain ⟨ad183, e183, hx183_0, hx183_1⟩ := at_T84 HR0.out 0 p183 q183
       obtain rfl : ad182 = ad183 := (by injection e183)
       have qi183 : (0 < l0.length) = True := eq_true (by omega)
       (try rw [show ((0 : Int)).toNat = 0 from rfl] at hx183_0)
       (try rw [show 0 * 2 = 0 from rfl] at hx183_0)
       (try rw [Addr.add_zero'] at hx183_0)
       (try rw [show ((0 : Int)).toNat = 0 from rfl] at hx183_1)
       (try rw [show 0 * 2 = 0 from rfl] at hx183_1)
       (try rw [Addr.add_zero'] at hx183_1)
       replace p183 := eq_true p183
       replace q183 := eq_true q183
       go_wp2
       repeat (go_quiet (fail); try go_wp2)
       go_ret
       exact ⟨by rfl, by repeat (first | exact Drawn0.refl _ | apply Drawn0.step)⟩
     ·rw [if_neg c4] at H
      exact absurd H (by simp)
    ·rw [if_neg c3] at H
     exact absurd H (by simp)
   ·rw [if_neg c2] at H
    have c2b0 : decide (x3_1 < (l0.length : Int)) = false := decide_eq_false c2
    clear c2
    obtain rfl := Option.some.inj H
    go_wp2
    repeat (go_quiet (fail); try go_wp2)
    go_ret
    exact ⟨by rfl, by repeat (first | exact Drawn0.refl _ | apply Drawn0.step)⟩

/-! ### depotref03_told: function 54 -/
def depotref03_told.f (k : Nat) (l0 : List (S84)) : Option (Bool) := (depotref03_heading.f k l0).bind fun t184 => (if t184 = 2 then (if 0 < (l0.length : Int) then (if ((rd_T84 l0 0).f0).toList = ([115] : List UInt8) then (if 1 < (l0.length : Int) then (if ((rd_T84 l0 1).f0).toList = ([83, 65, 84, 73, 83, 70, 73, 65, 66, 76, 69] : List UInt8) then (some true) else (some (((rd_T84 l0 1).f0).toList == ([85, 78, 83, 65, 84, 73, 83, 70, 73, 65, 66, 76, 69] : List UInt8)))) else (none)) else (some false)) else (none)) else (some false))
set_option maxHeartbeats 8000000 in
set_option maxRecDepth 100000 in
theorem depotref03_told.calls (k : Nat) (A0 : Option Addr) (c0 : Nat) (l0 : List (S84)) (r : Bool) (w : World) (hr0 : Kd.C k84 w A0 l0.length l0) (hc0 : l0.length ≤ c0) (h : depotref03_told.f k l0 = some r) :
  Calls Tryz.prog 54 #[.slice A0 l0.length c0] w fun e w' => e = .returned (.bool r) ∧ Drawn0 w w' := by
 have HR0 := Aside0.mk hr0
 have HC0 := Aside0.mk hc0
 clear hr0 hc0
 have H : ((depotref03_heading.f k l0).bind fun t184 => (if t184 = 2 then (if 0 < (l0.length : Int) then (if ((rd_T84 l0 0).f0).toList = ([115] : List UInt8) then (if 1 < (l0.length : Int) then (if ((rd_T84 l0 1).f0).toList = ([83, 65, 84, 73, 83, 70, 73, 65, 66, 76, 69] : List UInt8) then (some true) else (some (((rd_T84 l0 1).f0).toList == ([85, 78, 83, 65, 84, 73, 83, 70, 73, 65, 66, 76, 69] : List UInt8)))) else (none)) else (some false)) else (none)) else (some false))) = some r := h
 clear h
 replace H := Option.bind_eq_some_iff.mp H
 obtain ⟨t184, A20, H⟩ := H
 replace H : (if t184 = 2 then (if 0 < (l0.length : Int) then (if ((rd_T84 l0 0).f0).toList = ([115] : List UInt8) then (if 1 < (l0.length : Int) then (if ((rd_T84 l0 1).f0).toList = ([83, 65, 84, 73, 83, 70, 73, 65, 66, 76, 69] : List UInt8) then (some true) else (some (((rd_T84 l0 1).f0).toList == ([85, 78, 83, 65, 84, 73, 83, 70, 73, 65, 66, 76, 69] : List UInt8)))) else (none)) else (some false)) else (none)) else (some false)) = some r := H
 have A2 := Aside0.mk A20
 clear A20
 by_cases c3 : t184 = 2
 ·rw [if_pos c3] at H
  have c3b0 : (t184 == 2) = true := beq_iff_eq.mpr c3
  have c3b1 : (t184 != 2) = false := bne_eq_false_iff_eq.mpr c3
  clear c3
  by_cases c4 : 0 < (l0.length : Int)
  ·rw [if_pos c4] at H
   have c4b0 : decide (0 < (l0.length : Int)) = true := decide_eq_true c4
   have c4b1 : decide (0 < l0.length) = true := decide_eq_true (by omega)
   clear c4
   by_cases c5 : ((rd_T84 l0 0).f0).toList = ([115] : List UInt8)
   ·rw [if_pos c5] at H
    have c5b0 : (((rd_T84 l0 0).f0).toList == ([115] : List UInt8)) = true := beq_iff_eq.mpr c5
    have c5b1 : (((rd_T84 l0 0).f0).toList != ([115] : List UInt8)) = false := bne_eq_false_iff_eq.mpr c5
    clear c5
    by_cases c6 : 1 < (l0.length : Int)
    ·rw [if_pos c6] at H
     have c6b0 : decide (1 < (l0.length : Int)) = true := decide_eq_true c6
     have c6b1 : decide (1 < l0.length) = true := decide_eq_true (by omega)
     clear c6
     by_cases c7 : ((rd_T84 l0 1).f0).toList = ([83, 65, 84, 73, 83, 70, 73, 65, 66, 76, 69] : List UInt8)
     ·rw [if_pos c7] at H
      have c7b0 : (((rd_T84 l0 1).f0).toList == ([83, 65, 84, 73, 83, 70, 73, 65, 66, 76, 69] : List UInt8)) = true := beq_iff_eq.mpr c7
      have c7b1 : (((rd_T84 l0 1).f0).toList != ([83, 65, 84, 73, 83, 70, 73, 65, 66, 76, 69] : List UInt8)) = false := bne_eq_false_iff_eq.mpr c7
      clear c7
      obtain rfl := Option.some.inj H
      go_enter Tryz.func54, Tryz.ntmps54
      go_wp2_with ((((with_reducible refine gate_callee (f := 68) rfl ?_); refine goesL_ (some 4) rfl rfl Tryz.func68 (by kernel_rfl) rfl #[.slice A0 l0.length c0] rfl (by (try simp only [List.map_toArray, List.map_cons, List.map_nil]); rfl) ?_; (with_reducible refine (depotref03_heading.calls k _ _ l0 t184 _ ?side1 ?side2 A2.out).mono ?_); (case side1 => repeat (exact HR0.out)); (case side2 => exact HC0.out); rintro e w' ⟨rfl, ⟨nd, rfl⟩⟩; refine ⟨_, rfl, ?_⟩; have p185 : 0 ≤ (0 : Int) := (by omega); have q185 : 0 < (l0.length : Int) := of_decide_eq_true (by (with_reducible assumption)); obtain ⟨ad185, e185, hx185_0, hx185_1⟩ := at_T84 HR0.out 0 p185 q185; cases e185; have qi185 : (0 < l0.length) = True := eq_true (by omega); (try rw [show ((0 : Int)).toNat = 0 from rfl] at hx185_0); (try rw [show 0 * 2 = 0 from rfl] at hx185_0); (try rw [Addr.add_zero'] at hx185_0); (try rw [show ((0 : Int)).toNat = 0 from rfl] at hx185_1); (try rw [show 0 * 2 = 0 from rfl] at hx185_1); (try rw [Addr.add_zero'] at hx185_1); replace p185 := eq_true p185; replace q185 := eq_true q185; have p186 : 0 ≤ (1 : Int) := (by omega); have q186 : 1 < (l0.length : Int) := of_decide_eq_true (by (with_reducible assumption)); obtain ⟨ad186, e186, hx186_0, hx186_1⟩ := at_T84 HR0.out 1 p186 q186; obtain rfl : ad185 = ad186 := (by injection e186); (try simp only [show (1 : Int).toNat = 1 from rfl, Nat.reduceMul, Nat.reduceEqDiff, Go.Addr.add, ↓reduceIte] at hx186_0); (try simp only [show (1 : Int).toNat = 1 from rfl, Nat.reduceMul, Nat.reduceEqDiff, Go.Addr.add, ↓reduceIte] at hx186_1); have qi186 : (1 < l0.length) = True := eq_true (by omega); (try rw [show ((1 : Int)).toNat = 1 from rfl] at hx186_0); (try rw [show 1 * 2 = 2 from rfl] at hx186_0); (try rw [show ((1 : Int)).toNat = 1 from rfl] at hx186_1); (try rw [show 1 * 2 = 2 from rfl] at hx186_1); replace p186 := eq_true p186; replace q186 := eq_true q186)))
      go_ret
      exact ⟨by rfl, by repeat (first | exact Drawn0.refl _ | apply Drawn0.step)⟩
     ·rw [if_neg c7] at H
      have c7b0 : (((rd_T84 l0 1).f0).toList == ([83, 65, 84, 73, 83, 70, 73, 65, 66, 76, 69] : List UInt8)) = false := beq_eq_false_iff_ne.mpr c7
      have c7b1 : (((rd_T84 l0 1).f0).toList != ([83, 65, 84, 73, 83, 70, 73, 65, 66, 76, 69] : List UInt8)) = true := bne_iff_ne.mpr c7
      obtain rfl := Option.some.inj H
      go_enter Tryz.func54, Tryz.ntmps54
      go_wp2_with ((((with_reducible refine gate_callee (f := 68) rfl ?_); refine goesL_ (some 4) rfl rfl Tryz.func68 (by kernel_rfl) rfl #[.slice A0 l0.length c0] rfl (by (try simp only [List.map_toArray, List.map_cons, List.map_nil]); rfl) ?_; (with_reducible refine (depotref03_heading.calls k _ _ l0 t184 _ ?side1 ?side2 A2.out).mono ?_); (case side1 => repeat (exact HR0.out)); (case side2 => exact HC0.out); rintro e w' ⟨rfl, ⟨nd, rfl⟩⟩; refine ⟨_, rfl, ?_⟩; have p185 : 0 ≤ (0 : Int) := (by omega); have q185 : 0 < (l0.length : Int) := of_decide_eq_true (by (with_reducible assumption)); obtain ⟨ad185, e185, hx185_0, hx185_1⟩ := at_T84 HR0.out 0 p185 q185; cases e185; have qi185 : (0 < l0.length) = True := eq_true (by omega); (try rw [show ((0 : Int)).toNat = 0 from rfl] at hx185_0); (try rw [show 0 * 2 = 0 from rfl] at hx185_0); (try rw [Addr.add_zero'] at hx185_0); (try rw [show ((0 : Int)).toNat = 0 from rfl] at hx185_1); (try rw [show 0 * 2 = 0 from rfl] at hx185_1); (try rw [Addr.add_zero'] at hx185_1); replace p185 := eq_true p185; replace q185 := eq_true q185; have p186 : 0 ≤ (1 : Int) := (by omega); have q186 : 1 < (l0.length : Int) := of_decide_eq_true (by (with_reducible assumption)); obtain ⟨ad186, e186, hx186_0, hx186_1⟩ := at_T84 HR0.out 1 p186 q186; obtain rfl : ad185 = ad186 := (by injection e186); (try simp only [show (1 : Int).toNat = 1 from rfl, Nat.reduceMul, Nat.reduceEqDiff, Go.Addr.add, ↓reduceIte] at hx186_0); (try simp only [show (1 : Int).toNat = 1 from rfl, Nat.reduceMul, Nat.reduceEqDiff, Go.Addr.add, ↓reduceIte] at hx186_1); have qi186 : (1 < l0.length) = True := eq_true (by omega); (try rw [show ((1 : Int)).toNat = 1 from rfl] at hx186_0); (try rw [show 1 * 2 = 2 from rfl] at hx186_0); (try rw [show ((1 : Int)).toNat = 1 from rfl] at hx186_1); (try rw [show 1 * 2 = 2 from rfl] at hx186_1); replace p186 := eq_true p186; replace q186 := eq_true q186; have p187 : 0 ≤ (1 : Int) := (by omega); have q187 : 1 < (l0.length : Int) := of_decide_eq_true (by (with_reducible assumption)); obtain ⟨ad187, e187, hx187_0, hx187_1⟩ := at_T84 HR0.out 1 p187 q187; obtain rfl : ad185 = ad187 := (by injection e187); (try simp only [show (1 : Int).toNat = 1 from rfl, Nat.reduceMul, Nat.reduceEqDiff, Go.Addr.add, ↓reduceIte] at hx187_0); (try simp only [show (1 : Int).toNat = 1 from rfl, Nat.reduceMul, Nat.reduceEqDiff, Go.Addr.add, ↓reduceIte] at hx187_1); have qi187 : (1 < l0.length) = True := eq_true (by omega); (try rw [show ((1 : Int)).toNat = 1 from rfl] at hx187_0); (try rw [show 1 * 2 = 2 from rfl] at hx187_0); (try rw [show ((1 : Int)).toNat = 1 from rfl] at hx187_1); (try rw [show 1 * 2 = 2 from rfl] at hx187_1); replace p187 := eq_true p187; replace q187 := eq_true q187)))
      go_ret
      exact ⟨by rfl, by repeat (first | exact Drawn0.refl _ | apply Drawn0.step)⟩
    ·rw [if_neg c6] at H
     exact absurd H (by simp)
   ·rw [if_neg c5] at H
    have c5b0 : (((rd_T84 l0 0).f0).toList == ([115] : List UInt8)) = false := beq_eq_false_iff_ne.mpr c5
    have c5b1 : (((rd_T84 l0 0).f0).toList != ([115] : List UInt8)) = true := bne_iff_ne.mpr c5
    obtain rfl := Option.some.inj H
    go_enter Tryz.func54, Tryz.ntmps54
    go_wp2_with ((((with_reducible refine gate_callee (f := 68) rfl ?_); refine goesL_ (some 4) rfl rfl Tryz.func68 (by kernel_rfl) rfl #[.slice A0 l0.length c0] rfl (by (try simp only [List.map_toArray, List.map_cons, List.map_nil]); rfl) ?_; (with_reducible refine (depotref03_heading.calls k _ _ l0 t184 _ ?side1 ?side2 A2.out).mono ?_); (case side1 => repeat (exact HR0.out)); (case side2 => exact HC0.out); rintro e w' ⟨rfl, ⟨nd, rfl⟩⟩; refine ⟨_, rfl, ?_⟩; have p185 : 0 ≤ (0 : Int) := (by omega); have q185 : 0 < (l0.length : Int) := of_decide_eq_true (by (with_reducible assumption)); obtain ⟨ad185, e185, hx185_0, hx185_1⟩ := at_T84 HR0.out 0 p185 q185; cases e185; have qi185 : (0 < l0.length) = True := eq_true (by omega); (try rw [show ((0 : Int)).toNat = 0 from rfl] at hx185_0); (try rw [show 0 * 2 = 0 from rfl] at hx185_0); (try rw [Addr.add_zero'] at hx185_0); (try rw [show ((0 : Int)).toNat = 0 from rfl] at hx185_1); (try rw [show 0 * 2 = 0 from rfl] at hx185_1); (try rw [Addr.add_zero'] at hx185_1); replace p185 := eq_true p185; replace q185 := eq_true q185)))
    go_ret
    exact ⟨by rfl, by repeat (first | exact Drawn0.refl _ | apply Drawn0.step)⟩
  ·rw [if_neg c4] at H
   exact absurd H (by simp)
 ·rw [if_neg c3] at H
  have c3b0 : (t184 == 2) = false := beq_eq_false_iff_ne.mpr c3
  have c3b1 : (t184 != 2) = true := bne_iff_ne.mpr c3
  obtain rfl := Option.some.inj H
  go_enter Tryz.func54, Tryz.ntmps54
  go_wp2_with ((((with_reducible refine gate_callee (f := 68) rfl ?_); refine goesL_ (some 4) rfl rfl Tryz.func68 (by kernel_rfl) rfl #[.slice A0 l0.length c0] rfl (by (try simp only [List.map_toArray, List.map_cons, List.map_nil]); rfl) ?_; (with_reducible refine (depotref03_heading.calls k _ _ l0 t184 _ ?side1 ?side2 A2.out).mono ?_); (case side1 => repeat (exact HR0.out)); (case side2 => exact HC0.out); rintro e w' ⟨rfl, ⟨nd, rfl⟩⟩; refine ⟨_, rfl, ?_⟩)))
  go_ret
  exact ⟨by rfl, by repeat (first | exact Drawn0.refl _ | apply Drawn0.step)⟩

/-! ### depotkit_mark: function 18 -/
def depotkit_mark.f (a0 : Int) (a1 : Int) : Option (Int) := some (wrap64 ((wrap64 (1000003 * (wrap64 (a0 + 7)))) + a1))
set_option maxHeartbeats 8000000 in
set_option maxRecDepth 100000 in
theorem depotkit_mark.calls (a0 : Int) (a1 : Int) (r : Int) (w : World) (h : depotkit_mark.f a0 a1 = some r) :
  Calls Tryz.prog 18 #[.int .i64 a0, .int .i64 a1] w fun e w' => e = .returned (.int .i64 r) ∧ Drawn0 w w' := by
 have H : (some (wrap64 ((wrap64 (1000003 * (wrap64 (a0 + 7)))) + a1))) = some r := h
 clear h
 obtain rfl := Option.some.inj H
 go_enter Tryz.func18, Tryz.ntmps18
 go_wp2
 go_ret
 exact ⟨by rfl, by repeat (exact Drawn0.refl _)⟩

end Go.Proofs.YtlhajfepcggjaaaGreatDoor.R
