/- Lean functions of the Go functions that the laws of this seat reach, and the proof that each call comes to them: written by a program of this session (wip/printx.sh) over the kit's print. No conditions. -/
import Derived.Test.YtlhajfepcggjaaaGreatDoorRx0
import Derived.Test.YtlhajfepcggjaaaGreatDoorRx5
import Derived.Test.YtlhajfepcggjaaaGreatDoorEValueU
namespace Go.Proofs.YtlhajfepcggjaaaGreatDoor.R
open Go.RowKit Go.Proofs.YtlhajfepcggjaaaGreatDoorW.PrintWords Go.Proofs.YtlhajfepcggjaaaGreatDoorW.PrintLast Go.Proofs.YtlhajfepcggjaaaGreatDoorW.PrintMore
attribute [local go_sem] max2_int min2_int max_two min_two max_three min_three max_four min_four   -- for this text's walks alone
set_option linter.unusedVariables false
set_option linter.unusedSimpArgs false

/-! ### depotref03_head: function 48 -/
def depotref03_head.j0 : Nat → List (S84) → Bool → Option (Bool)
 | 0, _, _ => none
 | k + 1, x0, x37 => if x37 = true then (some false) else (if 2 < (x0.length : Int) then ((depotref03_Value.f ((rd_T84 x0 2).f0)).bind fun t233 => (if 3 < (x0.length : Int) then ((depotref03_Value.f ((rd_T84 x0 3).f0)).bind fun t235 => (if t233 ≥ 0 then (if t233 ≤ 1048576 then (if t235 ≥ 0 then (some (decide (t235 ≤ 2147483647))) else (some false)) else (some false)) else (some false))) else (none))) else (none))
def depotref03_head.f (k : Nat) (l0 : List (S84)) : Option (Bool) := (depotref03_heading.f k l0).bind fun t225 => (if t225 = 4 then (if 0 < (l0.length : Int) then (if ((rd_T84 l0 0).f0).toList = ([112] : List UInt8) then (if 1 < (l0.length : Int) then (if ((rd_T84 l0 1).f0).toList = ([99, 110, 102] : List UInt8) then (if 2 < (l0.length : Int) then ((depotref03_Tens.f k ((rd_T84 l0 2).f0)).bind fun t229 => (if t229 = true then (if 3 < (l0.length : Int) then ((depotref03_Tens.f k ((rd_T84 l0 3).f0)).bind fun t231 => (depotref03_head.j0 k l0 (!t231))) else (none)) else (depotref03_head.j0 k l0 true))) else (none)) else (depotref03_head.j0 k l0 true)) else (none)) else (depotref03_head.j0 k l0 true)) else (none)) else (depotref03_head.j0 k l0 true))
def depotref03_head.T3 : Bool × List (List Nat × List Nat) := (true, [([], []), ([0], [0]), ([1], [1]), ([2], [2]), ([3], [3]), ([], []), ([5], [5]), ([6], [6]), ([7], [7]), ([8, 4], [8]), ([4, 9, 0, 1, 2, 3, 4], [4]), ([9, 10, 0, 1, 2, 3, 4, 5, 6, 7, 8, 9, 10], [9])])
def depotref03_head.B3 : List Nat := [0, 1, 3, 7, 15, 0, 32, 96, 224, 511, 1023, 2047]
theorem depotref03_head.tab3 : rtab .any (opsOf Tryz.f48 3) = depotref03_head.T3 := by kernel_rfl
theorem depotref03_head.bits3 : waitsOk depotref03_head.T3.2 depotref03_head.B3 = true := by kernel_rfl
set_option maxHeartbeats 8000000 in
set_option maxRecDepth 100000 in
theorem depotref03_head.calls (k : Nat) (A0 : Option Addr) (c0 : Nat) (l0 : List (S84)) (r : Bool) (w : World) (hr0 : Kd.C k84 w A0 l0.length l0) (hc0 : l0.length ≤ c0) (hE : Env w) (h : depotref03_head.f k l0 = some r) :
  Calls Tryz.prog 48 #[.slice A0 l0.length c0] w fun e w' => e = .returned (.bool r) ∧ Below w.heap.size w w' := by
 have HR0 := Aside0.mk hr0
 have HC0 := Aside0.mk hc0
 clear hr0 hc0
 have HB := Aside0.mk (Below.refl w.heap.size w)
 have HE := Aside0.mk hE
 clear hE
 have H : ((depotref03_heading.f k l0).bind fun t225 => (if t225 = 4 then (if 0 < (l0.length : Int) then (if ((rd_T84 l0 0).f0).toList = ([112] : List UInt8) then (if 1 < (l0.length : Int) then (if ((rd_T84 l0 1).f0).toList = ([99, 110, 102] : List UInt8) then (if 2 < (l0.length : Int) then ((depotref03_Tens.f k ((rd_T84 l0 2).f0)).bind fun t229 => (if t229 = true then (if 3 < (l0.length : Int) then ((depotref03_Tens.f k ((rd_T84 l0 3).f0)).bind fun t231 => (depotref03_head.j0 k l0 (!t231))) else (none)) else (depotref03_head.j0 k l0 true))) else (none)) else (depotref03_head.j0 k l0 true)) else (none)) else (depotref03_head.j0 k l0 true)) else (none)) else (depotref03_head.j0 k l0 true))) = some r := h
 clear h
 have HC2 := Aside0.mk H
 clear H
 go_enter Tryz.func48, Tryz.ntmps48
 go_upto_region 1 with (fail)
 go_cut [37] (fun v37 wc => ∃ (kq : Nat) (x37_1 : Bool), v37 = .bool x37_1 ∧ Aside0 (depotref03_head.j0 kq l0 x37_1 = some r) ∧ Aside0 (kq ≤ k) ∧ Aside0 (Below w.heap.size w wc))
 case first =>
  have H := HC2.out
  clear HC2
  replace H := Option.bind_eq_some_iff.mp H
  obtain ⟨t225, A30, H⟩ := H
  replace H : (if t225 = 4 then (if 0 < (l0.length : Int) then (if ((rd_T84 l0 0).f0).toList = ([112] : List UInt8) then (if 1 < (l0.length : Int) then (if ((rd_T84 l0 1).f0).toList = ([99, 110, 102] : List UInt8) then (if 2 < (l0.length : Int) then ((depotref03_Tens.f k ((rd_T84 l0 2).f0)).bind fun t229 => (if t229 = true then (if 3 < (l0.length : Int) then ((depotref03_Tens.f k ((rd_T84 l0 3).f0)).bind fun t231 => (depotref03_head.j0 k l0 (!t231))) else (none)) else (depotref03_head.j0 k l0 true))) else (none)) else (depotref03_head.j0 k l0 true)) else (none)) else (depotref03_head.j0 k l0 true)) else (none)) else (depotref03_head.j0 k l0 true)) = some r := H
  have A3 := Aside0.mk A30
  clear A30
  by_cases c4 : t225 = 4
  ·rw [if_pos c4] at H
   have c4b0 : (t225 == 4) = true := beq_iff_eq.mpr c4
   have c4b1 : (t225 != 4) = false := bne_eq_false_iff_eq.mpr c4
   clear c4
   (skip)
   by_cases c5 : 0 < (l0.length : Int)
   ·rw [if_pos c5] at H
    have c5b0 : decide (0 < (l0.length : Int)) = true := decide_eq_true c5
    have c5b1 : decide (0 < l0.length) = true := decide_eq_true (by omega)
    clear c5
    by_cases c6 : ((rd_T84 l0 0).f0).toList = ([112] : List UInt8)
    ·rw [if_pos c6] at H
     have c6b0 : (((rd_T84 l0 0).f0).toList == ([112] : List UInt8)) = true := beq_iff_eq.mpr c6
     have c6b1 : (((rd_T84 l0 0).f0).toList != ([112] : List UInt8)) = false := bne_eq_false_iff_eq.mpr c6
     clear c6
     by_cases c7 : 1 < (l0.length : Int)
     ·rw [if_pos c7] at H
      have c7b0 : decide (1 < (l0.length : Int)) = true := decide_eq_true c7
      have c7b1 : decide (1 < l0.length) = true := decide_eq_true (by omega)
      clear c7
      by_cases c8 : ((rd_T84 l0 1).f0).toList = ([99, 110, 102] : List UInt8)
      ·rw [if_pos c8] at H
       have c8b0 : (((rd_T84 l0 1).f0).toList == ([99, 110, 102] : List UInt8)) = true := beq_iff_eq.mpr c8
       have c8b1 : (((rd_T84 l0 1).f0).toList != ([99, 110, 102] : List UInt8)) = false := bne_eq_false_iff_eq.mpr c8
       clear c8
       by_cases c9 : 2 < (l0.length : Int)
       ·rw [if_pos c9] at H
        have c9b0 : decide (2 < (l0.length : Int)) = true := decide_eq_true c9
        have c9b1 : decide (2 < l0.length) = true := decide_eq_true (by omega)
        clear c9
        replace H := Option.bind_eq_some_iff.mp H
        obtain ⟨t229, A100, H⟩ := H
        replace H : (if t229 = true then (if 3 < (l0.length : Int) then ((depotref03_Tens.f k ((rd_T84 l0 3).f0)).bind fun t231 => (depotref03_head.j0 k l0 (!t231))) else (none)) else (depotref03_head.j0 k l0 true)) = some r := H
        have A10 := Aside0.mk A100
        clear A100
        by_cases c11 : t229 = true
        ·subst c11
         have H1 : (if 3 < (l0.length : Int) then ((depotref03_Tens.f k ((rd_T84 l0 3).f0)).bind fun t231 => (depotref03_head.j0 k l0 (!t231))) else (none)) = some r := by rw [if_pos rfl] at H; exact H
         clear H
         have H := H1
         clear H1
         by_cases c12 : 3 < (l0.length : Int)
         ·rw [if_pos c12] at H
          have c12b0 : decide (3 < (l0.length : Int)) = true := decide_eq_true c12
          have c12b1 : decide (3 < l0.length) = true := decide_eq_true (by omega)
          clear c12
          replace H := Option.bind_eq_some_iff.mp H
          obtain ⟨t231, A130, H⟩ := H
          replace H : (depotref03_head.j0 k l0 (!t231)) = some r := H
          have A13 := Aside0.mk A130
          clear A130
          have H' := Aside0.mk H
          clear H
          go_wp2_with (first | ((with_reducible refine gate_callee (f := 68) rfl ?_); refine goesL_ (some 6) rfl rfl Tryz.func68 (by kernel_rfl) rfl #[.slice A0 l0.length c0] rfl (by (try simp only [List.map_toArray, List.map_cons, List.map_nil]); rfl) ?_; (with_reducible refine (depotref03_heading.calls k _ _ l0 t225 _ ?side1 ?side2 A3.out).mono ?_); (case side1 => repeat (exact (Kd.C_below HR0.out HB.out))); (case side2 => exact HC0.out); rintro e w' ⟨rfl, ⟨nd, rfl⟩⟩; refine ⟨_, rfl, ?_⟩; have p226 : 0 ≤ (0 : Int) := (by omega); have q226 : 0 < (l0.length : Int) := of_decide_eq_true (by (with_reducible assumption)); obtain ⟨ad226, e226, hx226_0, hx226_1⟩ := at_T84 HR0.out 0 p226 q226; cases e226; have qi226 : (0 < l0.length) = True := eq_true (by omega); (try rw [show ((0 : Int)).toNat = 0 from rfl] at hx226_0); (try rw [show 0 * 2 = 0 from rfl] at hx226_0); (try rw [Addr.add_zero'] at hx226_0); (try rw [show ((0 : Int)).toNat = 0 from rfl] at hx226_1); (try rw [show 0 * 2 = 0 from rfl] at hx226_1); (try rw [Addr.add_zero'] at hx226_1); replace hx226_0 := (HB.out.cell (World.block_lt_of_cell? w _ hx226_0)).trans hx226_0; replace hx226_1 := (HB.out.cell (World.block_lt_of_cell? w _ hx226_1)).trans hx226_1; replace p226 := eq_true p226; replace q226 := eq_true q226; have p227 : 0 ≤ (1 : Int) := (by omega); have q227 : 1 < (l0.length : Int) := of_decide_eq_true (by (with_reducible assumption)); obtain ⟨ad227, e227, hx227_0, hx227_1⟩ := at_T84 HR0.out 1 p227 q227; obtain rfl : ad226 = ad227 := (by injection e227); (try simp only [show (1 : Int).toNat = 1 from rfl, Nat.reduceMul, Nat.reduceEqDiff, Go.Addr.add, ↓reduceIte] at hx227_0); (try simp only [show (1 : Int).toNat = 1 from rfl, Nat.reduceMul, Nat.reduceEqDiff, Go.Addr.add, ↓reduceIte] at hx227_1); have qi227 : (1 < l0.length) = True := eq_true (by omega); (try rw [show ((1 : Int)).toNat = 1 from rfl] at hx227_0); (try rw [show 1 * 2 = 2 from rfl] at hx227_0); (try rw [show ((1 : Int)).toNat = 1 from rfl] at hx227_1); (try rw [show 1 * 2 = 2 from rfl] at hx227_1); replace hx227_0 := (HB.out.cell (World.block_lt_of_cell? w _ hx227_0)).trans hx227_0; replace hx227_1 := (HB.out.cell (World.block_lt_of_cell? w _ hx227_1)).trans hx227_1; replace p227 := eq_true p227; replace q227 := eq_true q227; have p228 : 0 ≤ (2 : Int) := (by omega); have q228 : 2 < (l0.length : Int) := of_decide_eq_true (by (with_reducible assumption)); obtain ⟨ad228, e228, hx228_0, hx228_1⟩ := at_T84 HR0.out 2 p228 q228; obtain rfl : ad226 = ad228 := (by injection e228); (try simp only [show (2 : Int).toNat = 2 from rfl, Nat.reduceMul, Nat.reduceEqDiff, Go.Addr.add, ↓reduceIte] at hx228_0); (try simp only [show (2 : Int).toNat = 2 from rfl, Nat.reduceMul, Nat.reduceEqDiff, Go.Addr.add, ↓reduceIte] at hx228_1); have qi228 : (2 < l0.length) = True := eq_true (by omega); (try rw [show ((2 : Int)).toNat = 2 from rfl] at hx228_0); (try rw [show 2 * 2 = 4 from rfl] at hx228_0); (try rw [show ((2 : Int)).toNat = 2 from rfl] at hx228_1); (try rw [show 2 * 2 = 4 from rfl] at hx228_1); replace hx228_0 := (HB.out.cell (World.block_lt_of_cell? w _ hx228_0)).trans hx228_0; replace hx228_1 := (HB.out.cell (World.block_lt_of_cell? w _ hx228_1)).trans hx228_1; replace p228 := eq_true p228; replace q228 := eq_true q228) | (go_at_call 50; (with_reducible refine (depotref03_Tens.calls k ((rd_T84 l0 2).f0) true _ A10.out).mono ?_); rintro e w' ⟨rfl, ⟨nd, rfl⟩⟩; have p230 : 0 ≤ (3 : Int) := (by omega); have q230 : 3 < (l0.length : Int) := of_decide_eq_true (by (with_reducible assumption)); obtain ⟨ad230, e230, hx230_0, hx230_1⟩ := at_T84 HR0.out 3 p230 q230; obtain rfl : ad226 = ad230 := (by injection e230); (try simp only [show (3 : Int).toNat = 3 from rfl, Nat.reduceMul, Nat.reduceEqDiff, Go.Addr.add, ↓reduceIte] at hx230_0); (try simp only [show (3 : Int).toNat = 3 from rfl, Nat.reduceMul, Nat.reduceEqDiff, Go.Addr.add, ↓reduceIte] at hx230_1); have qi230 : (3 < l0.length) = True := eq_true (by omega); (try rw [show ((3 : Int)).toNat = 3 from rfl] at hx230_0); (try rw [show 3 * 2 = 6 from rfl] at hx230_0); (try rw [show ((3 : Int)).toNat = 3 from rfl] at hx230_1); (try rw [show 3 * 2 = 6 from rfl] at hx230_1); replace hx230_0 := (HB.out.cell (World.block_lt_of_cell? w _ hx230_0)).trans hx230_0; replace hx230_1 := (HB.out.cell (World.block_lt_of_cell? w _ hx230_1)).trans hx230_1; replace p230 := eq_true p230; replace q230 := eq_true q230) | (go_at_call 50; (with_reducible refine (depotref03_Tens.calls k ((rd_T84 l0 3).f0) t231 _ A13.out).mono ?_); rintro e w' ⟨rfl, ⟨nd, rfl⟩⟩))
          go_meet
          case rel => exact ⟨_, (!t231), (by rfl), H', ⟨by omega⟩, ⟨by repeat ((with_reducible first | exact HB.out | apply pw_below_drewN))⟩⟩
         ·rw [if_neg c12] at H
          exact absurd H (by simp)
        ·replace c11 := Bool.eq_false_iff.mpr c11
         subst c11
         have H1 : (depotref03_head.j0 k l0 true) = some r := by rw [if_neg (show ¬ (false = true) by decide)] at H; exact H
         clear H
         have H := H1
         clear H1
         have H' := Aside0.mk H
         clear H
         go_wp2_with (first | ((with_reducible refine gate_callee (f := 68) rfl ?_); refine goesL_ (some 6) rfl rfl Tryz.func68 (by kernel_rfl) rfl #[.slice A0 l0.length c0] rfl (by (try simp only [List.map_toArray, List.map_cons, List.map_nil]); rfl) ?_; (with_reducible refine (depotref03_heading.calls k _ _ l0 t225 _ ?side1 ?side2 A3.out).mono ?_); (case side1 => repeat (exact (Kd.C_below HR0.out HB.out))); (case side2 => exact HC0.out); rintro e w' ⟨rfl, ⟨nd, rfl⟩⟩; refine ⟨_, rfl, ?_⟩; have p226 : 0 ≤ (0 : Int) := (by omega); have q226 : 0 < (l0.length : Int) := of_decide_eq_true (by (with_reducible assumption)); obtain ⟨ad226, e226, hx226_0, hx226_1⟩ := at_T84 HR0.out 0 p226 q226; cases e226; have qi226 : (0 < l0.length) = True := eq_true (by omega); (try rw [show ((0 : Int)).toNat = 0 from rfl] at hx226_0); (try rw [show 0 * 2 = 0 from rfl] at hx226_0); (try rw [Addr.add_zero'] at hx226_0); (try rw [show ((0 : Int)).toNat = 0 from rfl] at hx226_1); (try rw [show 0 * 2 = 0 from rfl] at hx226_1); (try rw [Addr.add_zero'] at hx226_1); replace hx226_0 := (HB.out.cell (World.block_lt_of_cell? w _ hx226_0)).trans hx226_0; replace hx226_1 := (HB.out.cell (World.block_lt_of_cell? w _ hx226_1)).trans hx226_1; replace p226 := eq_true p226; replace q226 := eq_true q226; have p227 : 0 ≤ (1 : Int) := (by omega); have q227 : 1 < (l0.length : Int) := of_decide_eq_true (by (with_reducible assumption)); obtain ⟨ad227, e227, hx227_0, hx227_1⟩ := at_T84 HR0.out 1 p227 q227; obtain rfl : ad226 = ad227 := (by injection e227); (try simp only [show (1 : Int).toNat = 1 from rfl, Nat.reduceMul, Nat.reduceEqDiff, Go.Addr.add, ↓reduceIte] at hx227_0); (try simp only [show (1 : Int).toNat = 1 from rfl, Nat.reduceMul, Nat.reduceEqDiff, Go.Addr.add, ↓reduceIte] at hx227_1); have qi227 : (1 < l0.length) = True := eq_true (by omega); (try rw [show ((1 : Int)).toNat = 1 from rfl] at hx227_0); (try rw [show 1 * 2 = 2 from rfl] at hx227_0); (try rw [show ((1 : Int)).toNat = 1 from rfl] at hx227_1); (try rw [show 1 * 2 = 2 from rfl] at hx227_1); replace hx227_0 := (HB.out.cell (World.block_lt_of_cell? w _ hx227_0)).trans hx227_0; replace hx227_1 := (HB.out.cell (World.block_lt_of_cell? w _ hx227_1)).trans hx227_1; replace p227 := eq_true p227; replace q227 := eq_true q227; have p228 : 0 ≤ (2 : Int) := (by omega); have q228 : 2 < (l0.length : Int) := of_decide_eq_true (by (with_reducible assumption)); obtain ⟨ad228, e228, hx228_0, hx228_1⟩ := at_T84 HR0.out 2 p228 q228; obtain rfl : ad226 = ad228 := (by injection e228); (try simp only [show (2 : Int).toNat = 2 from rfl, Nat.reduceMul, Nat.reduceEqDiff, Go.Addr.add, ↓reduceIte] at hx228_0); (try simp only [show (2 : Int).toNat = 2 from rfl, Nat.reduceMul, Nat.reduceEqDiff, Go.Addr.add, ↓reduceIte] at hx228_1); have qi228 : (2 < l0.length) = True := eq_true (by omega); (try rw [show ((2 : Int)).toNat = 2 from rfl] at hx228_0); (try rw [show 2 * 2 = 4 from rfl] at hx228_0); (try rw [show ((2 : Int)).toNat = 2 from rfl] at hx228_1); (try rw [show 2 * 2 = 4 from rfl] at hx228_1); replace hx228_0 := (HB.out.cell (World.block_lt_of_cell? w _ hx228_0)).trans hx228_0; replace hx228_1 := (HB.out.cell (World.block_lt_of_cell? w _ hx228_1)).trans hx228_1; replace p228 := eq_true p228; replace q228 := eq_true q228) | (go_at_call 50; (with_reducible refine (depotref03_Tens.calls k ((rd_T84 l0 2).f0) false _ A10.out).mono ?_); rintro e w' ⟨rfl, ⟨nd, rfl⟩⟩))
         go_meet
         case rel => exact ⟨_, (true), (by rfl), H', ⟨by omega⟩, ⟨by repeat ((with_reducible first | exact HB.out | apply pw_below_drewN))⟩⟩
       ·rw [if_neg c9] at H
        exact absurd H (by simp)
      ·rw [if_neg c8] at H
       have c8b0 : (((rd_T84 l0 1).f0).toList == ([99, 110, 102] : List UInt8)) = false := beq_eq_false_iff_ne.mpr c8
       have c8b1 : (((rd_T84 l0 1).f0).toList != ([99, 110, 102] : List UInt8)) = true := bne_iff_ne.mpr c8
       have H' := Aside0.mk H
       clear H
       go_wp2_with ((((with_reducible refine gate_callee (f := 68) rfl ?_); refine goesL_ (some 6) rfl rfl Tryz.func68 (by kernel_rfl) rfl #[.slice A0 l0.length c0] rfl (by (try simp only [List.map_toArray, List.map_cons, List.map_nil]); rfl) ?_; (with_reducible refine (depotref03_heading.calls k _ _ l0 t225 _ ?side1 ?side2 A3.out).mono ?_); (case side1 => repeat (exact (Kd.C_below HR0.out HB.out))); (case side2 => exact HC0.out); rintro e w' ⟨rfl, ⟨nd, rfl⟩⟩; refine ⟨_, rfl, ?_⟩; have p226 : 0 ≤ (0 : Int) := (by omega); have q226 : 0 < (l0.length : Int) := of_decide_eq_true (by (with_reducible assumption)); obtain ⟨ad226, e226, hx226_0, hx226_1⟩ := at_T84 HR0.out 0 p226 q226; cases e226; have qi226 : (0 < l0.length) = True := eq_true (by omega); (try rw [show ((0 : Int)).toNat = 0 from rfl] at hx226_0); (try rw [show 0 * 2 = 0 from rfl] at hx226_0); (try rw [Addr.add_zero'] at hx226_0); (try rw [show ((0 : Int)).toNat = 0 from rfl] at hx226_1); (try rw [show 0 * 2 = 0 from rfl] at hx226_1); (try rw [Addr.add_zero'] at hx226_1); replace hx226_0 := (HB.out.cell (World.block_lt_of_cell? w _ hx226_0)).trans hx226_0; replace hx226_1 := (HB.out.cell (World.block_lt_of_cell? w _ hx226_1)).trans hx226_1; replace p226 := eq_true p226; replace q226 := eq_true q226; have p227 : 0 ≤ (1 : Int) := (by omega); have q227 : 1 < (l0.length : Int) := of_decide_eq_true (by (with_reducible assumption)); obtain ⟨ad227, e227, hx227_0, hx227_1⟩ := at_T84 HR0.out 1 p227 q227; obtain rfl : ad226 = ad227 := (by injection e227); (try simp only [show (1 : Int).toNat = 1 from rfl, Nat.reduceMul, Nat.reduceEqDiff, Go.Addr.add, ↓reduceIte] at hx227_0); (try simp only [show (1 : Int).toNat = 1 from rfl, Nat.reduceMul, Nat.reduceEqDiff, Go.Addr.add, ↓reduceIte] at hx227_1); have qi227 : (1 < l0.length) = True := eq_true (by omega); (try rw [show ((1 : Int)).toNat = 1 from rfl] at hx227_0); (try rw [show 1 * 2 = 2 from rfl] at hx227_0); (try rw [show ((1 : Int)).toNat = 1 from rfl] at hx227_1); (try rw [show 1 * 2 = 2 from rfl] at hx227_1); replace hx227_0 := (HB.out.cell (World.block_lt_of_cell? w _ hx227_0)).trans hx227_0; replace hx227_1 := (HB.out.cell (World.block_lt_of_cell? w _ hx227_1)).trans hx227_1; replace p227 := eq_true p227; replace q227 := eq_true q227)))
       go_meet
       case rel => exact ⟨_, (true), (by rfl), H', ⟨by omega⟩, ⟨by repeat ((with_reducible first | exact HB.out | apply pw_below_drewN))⟩⟩
     ·rw [if_neg c7] at H
      exact absurd H (by simp)
    ·rw [if_neg c6] at H
     have c6b0 : (((rd_T84 l0 0).f0).toList == ([112] : List UInt8)) = false := beq_eq_false_iff_ne.mpr c6
     have c6b1 : (((rd_T84 l0 0).f0).toList != ([112] : List UInt8)) = true := bne_iff_ne.mpr c6
     have H' := Aside0.mk H
     clear H
     go_wp2_with ((((with_reducible refine gate_callee (f := 68) rfl ?_); refine goesL_ (some 6) rfl rfl Tryz.func68 (by kernel_rfl) rfl #[.slice A0 l0.length c0] rfl (by (try simp only [List.map_toArray, List.map_cons, List.map_nil]); rfl) ?_; (with_reducible refine (depotref03_heading.calls k _ _ l0 t225 _ ?side1 ?side2 A3.out).mono ?_); (case side1 => repeat (exact (Kd.C_below HR0.out HB.out))); (case side2 => exact HC0.out); rintro e w' ⟨rfl, ⟨nd, rfl⟩⟩; refine ⟨_, rfl, ?_⟩; have p226 : 0 ≤ (0 : Int) := (by omega); have q226 : 0 < (l0.length : Int) := of_decide_eq_true (by (with_reducible assumption)); obtain ⟨ad226, e226, hx226_0, hx226_1⟩ := at_T84 HR0.out 0 p226 q226; cases e226; have qi226 : (0 < l0.length) = True := eq_true (by omega); (try rw [show ((0 : Int)).toNat = 0 from rfl] at hx226_0); (try rw [show 0 * 2 = 0 from rfl] at hx226_0); (try rw [Addr.add_zero'] at hx226_0); (try rw [show ((0 : Int)).toNat = 0 from rfl] at hx226_1); (try rw [show 0 * 2 = 0 from rfl] at hx226_1); (try rw [Addr.add_zero'] at hx226_1); replace hx226_0 := (HB.out.cell (World.block_lt_of_cell? w _ hx226_0)).trans hx226_0; replace hx226_1 := (HB.out.cell (World.block_lt_of_cell? w _ hx226_1)).trans hx226_1; replace p226 := eq_true p226; replace q226 := eq_true q226)))
     go_meet
     case rel => exact ⟨_, (true), (by rfl), H', ⟨by omega⟩, ⟨by repeat ((with_reducible first | exact HB.out | apply pw_below_drewN))⟩⟩
   ·rw [if_neg c5] at H
    exact absurd H (by simp)
  ·rw [if_neg c4] at H
   have c4b0 : (t225 == 4) = false := beq_eq_false_iff_ne.mpr c4
   have c4b1 : (t225 != 4) = true := bne_iff_ne.mpr c4
   (skip)
   have H' := Aside0.mk H
   clear H
   go_wp2_with ((((with_reducible refine gate_callee (f := 68) rfl ?_); refine goesL_ (some 6) rfl rfl Tryz.func68 (by kernel_rfl) rfl #[.slice A0 l0.length c0] rfl (by (try simp only [List.map_toArray, List.map_cons, List.map_nil]); rfl) ?_; (with_reducible refine (depotref03_heading.calls k _ _ l0 t225 _ ?side1 ?side2 A3.out).mono ?_); (case side1 => repeat (exact (Kd.C_below HR0.out HB.out))); (case side2 => exact HC0.out); rintro e w' ⟨rfl, ⟨nd, rfl⟩⟩; refine ⟨_, rfl, ?_⟩)))
   go_meet
   case rel => exact ⟨_, (true), (by rfl), H', ⟨by omega⟩, ⟨by repeat ((with_reducible first | exact HB.out | apply pw_below_drewN))⟩⟩
 case rest =>
  clear HC2
  try clear c1
  try clear p2
  try clear q2
  try clear hx2
  try clear qi2
  try clear c4
  try clear c4b0
  try clear c4b1
  try clear c5
  try clear c5b0
  try clear c5b1
  try clear c6
  try clear c6b0
  try clear c6b1
  try clear c7
  try clear c7b0
  try clear c7b1
  try clear c8
  try clear c8b0
  try clear c8b1
  try clear c9
  try clear c9b0
  try clear c9b1
  try clear c11
  try clear c12
  try clear c12b0
  try clear c12b1
  try clear hx226_0
  try clear hx226_1
  try clear hx227_0
  try clear hx227_1
  try clear hx228_0
  try clear hx228_1
  try clear hx230_0
  try clear hx230_1
  try clear p226
  try clear p227
  try clear p228
  try clear p230
  try clear q226
  try clear q227
  try clear q228
  try clear q230
  obtain ⟨kq, x37_1, rfl, HA, HJ1, HB⟩ := hcut
  cases kq with
  | zero => exact absurd HA.out (by simp [depotref03_head.j0])
  | succ kj1 =>
   have H := HA.out
   clear HA
   simp only [depotref03_head.j0] at H
   by_cases c14 : x37_1 = true
   ·subst c14
    have H1 : (some false) = some r := by rw [if_pos rfl] at H; exact H
    clear H
    have H := H1
    clear H1
    obtain rfl := Option.some.inj H
    go_wp2
    go_ret
    exact ⟨by rfl, by repeat ((with_reducible exact HB.out))⟩
   ·replace c14 := Bool.eq_false_iff.mpr c14
    subst c14
    have H1 : (if 2 < (l0.length : Int) then ((depotref03_Value.f ((rd_T84 l0 2).f0)).bind fun t233 => (if 3 < (l0.length : Int) then ((depotref03_Value.f ((rd_T84 l0 3).f0)).bind fun t235 => (if t233 ≥ 0 then (if t233 ≤ 1048576 then (if t235 ≥ 0 then (some (decide (t235 ≤ 2147483647))) else (some false)) else (some false)) else (some false))) else (none))) else (none)) = some r := by rw [if_neg (show ¬ (false = true) by decide)] at H; exact H
    clear H
    have H := H1
    clear H1
    by_cases c15 : 2 < (l0.length : Int)
    ·rw [if_pos c15] at H
     have c15b0 : decide (2 < (l0.length : Int)) = true := decide_eq_true c15
     have c15b1 : decide (2 < l0.length) = true := decide_eq_true (by omega)
     clear c15
     replace H := Option.bind_eq_some_iff.mp H
     obtain ⟨t233, A160, H⟩ := H
     replace H : (if 3 < (l0.length : Int) then ((depotref03_Value.f ((rd_T84 l0 3).f0)).bind fun t235 => (if t233 ≥ 0 then (if t233 ≤ 1048576 then (if t235 ≥ 0 then (some (decide (t235 ≤ 2147483647))) else (some false)) else (some false)) else (some false))) else (none)) = some r := H
     have A16 := Aside0.mk A160
     clear A160
     by_cases c17 : 3 < (l0.length : Int)
     ·rw [if_pos c17] at H
      have c17b0 : decide (3 < (l0.length : Int)) = true := decide_eq_true c17
      have c17b1 : decide (3 < l0.length) = true := decide_eq_true (by omega)
      clear c17
      replace H := Option.bind_eq_some_iff.mp H
      obtain ⟨t235, A180, H⟩ := H
      replace H : (if t233 ≥ 0 then (if t233 ≤ 1048576 then (if t235 ≥ 0 then (some (decide (t235 ≤ 2147483647))) else (some false)) else (some false)) else (some false)) = some r := H
      have A18 := Aside0.mk A180
      clear A180
      by_cases c19 : t233 ≥ 0
      ·rw [if_pos c19] at H
       have c19b0 : decide (0 ≤ t233) = true := decide_eq_true c19
       clear c19
       by_cases c20 : t233 ≤ 1048576
       ·rw [if_pos c20] at H
        have c20b0 : decide (t233 ≤ 1048576) = true := decide_eq_true c20
        clear c20
        by_cases c21 : t235 ≥ 0
        ·rw [if_pos c21] at H
         have c21b0 : decide (0 ≤ t235) = true := decide_eq_true c21
         clear c21
         obtain rfl := Option.some.inj H
         try go_wp2
         have n0_ := Aside0.mk (below_drew1 HB.out)
         clear HB
         have HB := n0_
         clear n0_
         have p232 : 0 ≤ (2 : Int) := (by omega)
         have q232 : 2 < (l0.length : Int) := of_decide_eq_true (by (with_reducible assumption))
         obtain ⟨ad232, e232, hx232_0, hx232_1⟩ := at_T84 HR0.out 2 p232 q232
         have hw232_1 := hx232_1
         (try rw [show ((2 : Int)).toNat = 2 from rfl] at hw232_1)
         (try rw [show 2 * 2 = 4 from rfl] at hw232_1)
         (try simp only [Nat.reduceMul, Nat.reduceEqDiff, Go.Addr.add, ↓reduceIte] at hw232_1)
         have hw232_0 := hx232_0
         (try rw [show ((2 : Int)).toNat = 2 from rfl] at hw232_0)
         (try rw [show 2 * 2 = 4 from rfl] at hw232_0)
         (try simp only [Nat.reduceMul, Nat.reduceEqDiff, Go.Addr.add, ↓reduceIte] at hw232_0)
         cases e232
         (try simp only [show (2 : Int).toNat = 2 from rfl, Nat.reduceMul, Nat.reduceEqDiff, Go.Addr.add, ↓reduceIte] at hx232_0)
         (try simp only [show (2 : Int).toNat = 2 from rfl, Nat.reduceMul, Nat.reduceEqDiff, Go.Addr.add, ↓reduceIte] at hx232_1)
         have qi232 : (2 < l0.length) = True := eq_true (by omega)
         (try rw [show ((2 : Int)).toNat = 2 from rfl] at hx232_0)
         (try rw [show 2 * 2 = 4 from rfl] at hx232_0)
         (try rw [show ((2 : Int)).toNat = 2 from rfl] at hx232_1)
         (try rw [show 2 * 2 = 4 from rfl] at hx232_1)
         replace hx232_0 := (HB.out.cell (World.block_lt_of_cell? w _ hx232_0)).trans hx232_0
         replace hx232_1 := (HB.out.cell (World.block_lt_of_cell? w _ hx232_1)).trans hx232_1
         replace p232 := eq_true p232
         replace q232 := eq_true q232
         have p234 : 0 ≤ (3 : Int) := (by omega)
         have q234 : 3 < (l0.length : Int) := of_decide_eq_true (by (with_reducible assumption))
         obtain ⟨ad234, e234, hx234_0, hx234_1⟩ := at_T84 HR0.out 3 p234 q234
         have hw234_1 := hx234_1
         (try rw [show ((3 : Int)).toNat = 3 from rfl] at hw234_1)
         (try rw [show 3 * 2 = 6 from rfl] at hw234_1)
         (try simp only [Nat.reduceMul, Nat.reduceEqDiff, Go.Addr.add, ↓reduceIte] at hw234_1)
         have hw234_0 := hx234_0
         (try rw [show ((3 : Int)).toNat = 3 from rfl] at hw234_0)
         (try rw [show 3 * 2 = 6 from rfl] at hw234_0)
         (try simp only [Nat.reduceMul, Nat.reduceEqDiff, Go.Addr.add, ↓reduceIte] at hw234_0)
         obtain rfl : ad232 = ad234 := (by injection e234)
         (try simp only [show (3 : Int).toNat = 3 from rfl, Nat.reduceMul, Nat.reduceEqDiff, Go.Addr.add, ↓reduceIte] at hx234_0)
         (try simp only [show (3 : Int).toNat = 3 from rfl, Nat.reduceMul, Nat.reduceEqDiff, Go.Addr.add, ↓reduceIte] at hx234_1)
         have qi234 : (3 < l0.length) = True := eq_true (by omega)
         (try rw [show ((3 : Int)).toNat = 3 from rfl] at hx234_0)
         (try rw [show 3 * 2 = 6 from rfl] at hx234_0)
         (try rw [show ((3 : Int)).toNat = 3 from rfl] at hx234_1)
         (try rw [show 3 * 2 = 6 from rfl] at hx234_1)
         replace hx234_0 := (HB.out.cell (World.block_lt_of_cell? w _ hx234_0)).trans hx234_0
         replace hx234_1 := (HB.out.cell (World.block_lt_of_cell? w _ hx234_1)).trans hx234_1
         replace p234 := eq_true p234
         replace q234 := eq_true q234
         refine start_ (n := 12) (S := fun w' => w'.cell? ⟨ad232.block, ad232.off + 4, none⟩ = some (.string ((rd_T84 l0 2).f0)) ∧ w'.cell? ⟨ad232.block, ad232.off + 4 + 1, none⟩ = some (.int .i64 ((rd_T84 l0 2).f1)) ∧ w'.cell? ⟨ad232.block, ad232.off + 6, none⟩ = some (.string ((rd_T84 l0 3).f0)) ∧ w'.cell? ⟨ad232.block, ad232.off + 6 + 1, none⟩ = some (.int .i64 ((rd_T84 l0 3).f1))) (ds := []) #[false, false, false, false, false, false, false, false, false, false, false, false] (by kernel_rfl) rfl rfl ⟨((HB.out.cell (World.block_lt_of_cell? w _ hw232_0)).trans hw232_0), ((HB.out.cell (World.block_lt_of_cell? w _ hw232_1)).trans hw232_1), ((HB.out.cell (World.block_lt_of_cell? w _ hw234_0)).trans hw234_0), ((HB.out.cell (World.block_lt_of_cell? w _ hw234_1)).trans hw234_1)⟩ (fun hHeld => ?_); refine with_tabW depotref03_head.tab3 depotref03_head.bits3 (fun HT_ HW_ => ?_)
         generalize wc.drew = w22 at HB hx232_0 hx232_1 hx234_0 hx234_1 hHeld ⊢
         refine pure_ (i := 0) (N := some 38) (v := ?_) (a' := ?_) #[true, false, false, false, false, false, false, false, false, false, false, false] rfl rfl (any_of HT_.out (by kernel_rfl)) (fun _ _ _ h => h) (Or.inl ⟨by rfl, ?_⟩) ?_ ?_
         rotate_left
         ·intro w'
          go_simp
          with_reducible rfl
         rotate_left
         ·simp only [Act.put, List.setIfInBounds_toArray, List.set_cons_zero, List.set_cons_succ, i64_w, i32_w]
          rfl
         refine pure_ (i := 1) (N := some 39) (v := ?_) (a' := ?_) #[true, true, false, false, false, false, false, false, false, false, false, false] rfl rfl (any_of HT_.out (by kernel_rfl)) (fun _ _ _ h => h) (Or.inl ⟨by rfl, ?_⟩) ?_ ?_
         rotate_left
         ·intro w'
          go_simp
          with_reducible rfl
         rotate_left
         ·simp only [Act.put, List.setIfInBounds_toArray, List.set_cons_zero, List.set_cons_succ, i64_w, i32_w]
          rfl
         refine pure_ (i := 2) (N := some 40) (v := ?_) (a' := ?_) #[true, true, true, false, false, false, false, false, false, false, false, false] rfl rfl (any_of HT_.out (by kernel_rfl)) (fun _ _ _ h => h) (Or.inl ⟨by rfl, ?_⟩) ?_ ?_
         rotate_left
         ·intro w'
          go_simp
          with_reducible rfl
         rotate_left
         ·simp only [Act.put, List.setIfInBounds_toArray, List.set_cons_zero, List.set_cons_succ, i64_w, i32_w]
          rfl
         refine pure_ (i := 5) (N := some 43) (v := ?_) (a' := ?_) #[true, true, true, false, false, true, false, false, false, false, false, false] rfl rfl (any_of HT_.out (by kernel_rfl)) (fun _ _ _ h => h) (Or.inl ⟨by rfl, ?_⟩) ?_ ?_
         rotate_left
         ·intro w'
          go_simp
          with_reducible rfl
         rotate_left
         ·simp only [Act.put, List.setIfInBounds_toArray, List.set_cons_zero, List.set_cons_succ, i64_w, i32_w]
          rfl
         refine pure_ (i := 6) (N := some 44) (v := ?_) (a' := ?_) #[true, true, true, false, false, true, true, false, false, false, false, false] rfl rfl (any_of HT_.out (by kernel_rfl)) (fun _ _ _ h => h) (Or.inl ⟨by rfl, ?_⟩) ?_ ?_
         rotate_left
         ·intro w'
          go_simp
          with_reducible rfl
         rotate_left
         ·simp only [Act.put, List.setIfInBounds_toArray, List.set_cons_zero, List.set_cons_succ, i64_w, i32_w]
          rfl
         refine pure_ (i := 7) (N := some 45) (v := ?_) (a' := ?_) #[true, true, true, false, false, true, true, true, false, false, false, false] rfl rfl (any_of HT_.out (by kernel_rfl)) (fun _ _ _ h => h) (Or.inl ⟨by rfl, ?_⟩) ?_ ?_
         rotate_left
         ·intro w'
          go_simp
          with_reducible rfl
         rotate_left
         ·simp only [Act.put, List.setIfInBounds_toArray, List.set_cons_zero, List.set_cons_succ, i64_w, i32_w]
          rfl
         refine take_ (i := 3) (N := some 41) (v := ?_) (a' := ?_) #[true, true, true, true, false, true, true, true, false, false, false, false] rfl rfl (take_ofW HT_.out HW_.out (by kernel_rfl)) (fun _ _ _ h => h) (Or.inl ⟨by rfl, ?_⟩) hHeld ?_ ?_
         rotate_left
         ·rintro w' ⟨s0, s1, s2, s3⟩
          go_simp
          with_reducible rfl
         rotate_left
         ·simp only [Act.put, List.setIfInBounds_toArray, List.set_cons_zero, List.set_cons_succ, i64_w, i32_w]
          rfl
         refine take_ (i := 8) (N := some 46) (v := ?_) (a' := ?_) #[true, true, true, true, false, true, true, true, true, false, false, false] rfl rfl (take_ofW HT_.out HW_.out (by kernel_rfl)) (fun _ _ _ h => h) (Or.inl ⟨by rfl, ?_⟩) hHeld ?_ ?_
         rotate_left
         ·rintro w' ⟨s0, s1, s2, s3⟩
          go_simp
          with_reducible rfl
         rotate_left
         ·simp only [Act.put, List.setIfInBounds_toArray, List.set_cons_zero, List.set_cons_succ, i64_w, i32_w]
          rfl
         refine one_ (i := 4) (N := some 42) #[true, true, true, true, true, true, true, true, true, false, false, false] rfl rfl (one_of HT_.out (by kernel_rfl)) (by decide) (fun K hK => ?_)
         refine goes_ Tryz.func49 (by kernel_rfl) rfl #[.string ((rd_T84 l0 2).f0)] (by rfl) rfl rfl (by (try simp only [List.map_toArray, List.map_cons, List.map_nil]); rfl) ?_
         with_reducible refine (depotref03_Value.calls ((rd_T84 l0 2).f0) t233 _ ?side1 A16.out).mono ?_
         (case side1 => exact Env.below HE.out (by repeat ((with_reducible exact HB.out))))
         rintro e w23 ⟨rfl, hb⟩
         refine ⟨_, rfl, ?_⟩
         have n0_ := Aside0.mk (below_step (by repeat ((with_reducible exact HB.out))) hb)
         clear HB
         have HB := n0_
         clear n0_
         (try clear hb)
         (try clear hb2)
         (try clear hk)
         (try clear hi)
         refine hK.out _ _ ⟨((HB.out.cell (World.block_lt_of_cell? w _ hw232_0)).trans hw232_0), ((HB.out.cell (World.block_lt_of_cell? w _ hw232_1)).trans hw232_1), ((HB.out.cell (World.block_lt_of_cell? w _ hw234_0)).trans hw234_0), ((HB.out.cell (World.block_lt_of_cell? w _ hw234_1)).trans hw234_1)⟩ (fun hHeld => ?_)
         clear hK K
         refine norm_ (a' := ?_) ?_ ?_
         rotate_left
         ·show Act.put _ (some 42) _ = _
          simp only [Act.put, List.setIfInBounds_toArray, List.set_cons_zero, List.set_cons_succ, i64_w, i32_w]
          rfl
         refine one_ (i := 9) (N := some 47) #[true, true, true, true, true, true, true, true, true, true, false, false] rfl rfl (one_of HT_.out (by kernel_rfl)) (by decide) (fun K hK => ?_)
         refine goes_ Tryz.func49 (by kernel_rfl) rfl #[.string ((rd_T84 l0 3).f0)] (by rfl) rfl rfl (by (try simp only [List.map_toArray, List.map_cons, List.map_nil]); rfl) ?_
         with_reducible refine (depotref03_Value.calls ((rd_T84 l0 3).f0) t235 _ ?side1 A18.out).mono ?_
         (case side1 => exact Env.below HE.out (by repeat ((with_reducible exact HB.out))))
         rintro e w24 ⟨rfl, hb⟩
         refine ⟨_, rfl, ?_⟩
         have n0_ := Aside0.mk (below_step (by repeat ((with_reducible exact HB.out))) hb)
         clear HB
         have HB := n0_
         clear n0_
         (try clear hb)
         (try clear hb2)
         (try clear hk)
         (try clear hi)
         refine hK.out _ _ ⟨((HB.out.cell (World.block_lt_of_cell? w _ hw232_0)).trans hw232_0), ((HB.out.cell (World.block_lt_of_cell? w _ hw232_1)).trans hw232_1), ((HB.out.cell (World.block_lt_of_cell? w _ hw234_0)).trans hw234_0), ((HB.out.cell (World.block_lt_of_cell? w _ hw234_1)).trans hw234_1)⟩ (fun hHeld => ?_)
         clear hK K
         refine norm_ (a' := ?_) ?_ ?_
         rotate_left
         ·show Act.put _ (some 47) _ = _
          simp only [Act.put, List.setIfInBounds_toArray, List.set_cons_zero, List.set_cons_succ, i64_w, i32_w]
          rfl
         refine pure_ (i := 10) (N := some 3) (v := ?_) (a' := ?_) #[true, true, true, true, true, true, true, true, true, true, true, false] rfl rfl (any_of HT_.out (by kernel_rfl)) (fun _ _ _ h => h) (Or.inl ⟨by rfl, ?_⟩) ?_ ?_
         rotate_left
         ·intro w'
          go_simp
          with_reducible rfl
         rotate_left
         ·simp only [Act.put, List.setIfInBounds_toArray, List.set_cons_zero, List.set_cons_succ, i64_w, i32_w]
          rfl
         refine pure_ (i := 11) (N := some 4) (v := ?_) (a' := ?_) #[true, true, true, true, true, true, true, true, true, true, true, true] rfl rfl (any_of HT_.out (by kernel_rfl)) (fun _ _ _ h => h) (Or.inl ⟨by rfl, ?_⟩) ?_ ?_
         rotate_left
         ·intro w'
          go_simp
          with_reducible rfl
         rotate_left
         ·simp only [Act.put, List.setIfInBounds_toArray, List.set_cons_zero, List.set_cons_succ, i64_w, i32_w]
          rfl
         refine done_ (done_of HT_.out (by kernel_rfl)) ?_
         try go_wp2
         go_ret
         exact ⟨by rfl, by repeat ((with_reducible exact HB.out))⟩
        ·rw [if_neg c21] at H
         have c21b0 : decide (0 ≤ t235) = false := decide_eq_false c21
         clear c21
         obtain rfl := Option.some.inj H
         try go_wp2
         have n0_ := Aside0.mk (below_drew1 HB.out)
         clear HB
         have HB := n0_
         clear n0_
         have p232 : 0 ≤ (2 : Int) := (by omega)
         have q232 : 2 < (l0.length : Int) := of_decide_eq_true (by (with_reducible assumption))
         obtain ⟨ad232, e232, hx232_0, hx232_1⟩ := at_T84 HR0.out 2 p232 q232
         have hw232_1 := hx232_1
         (try rw [show ((2 : Int)).toNat = 2 from rfl] at hw232_1)
         (try rw [show 2 * 2 = 4 from rfl] at hw232_1)
         (try simp only [Nat.reduceMul, Nat.reduceEqDiff, Go.Addr.add, ↓reduceIte] at hw232_1)
         have hw232_0 := hx232_0
         (try rw [show ((2 : Int)).toNat = 2 from rfl] at hw232_0)
         (try rw [show 2 * 2 = 4 from rfl] at hw232_0)
         (try simp only [Nat.reduceMul, Nat.reduceEqDiff, Go.Addr.add, ↓reduceIte] at hw232_0)
         cases e232
         (try simp only [show (2 : Int).toNat = 2 from rfl, Nat.reduceMul, Nat.reduceEqDiff, Go.Addr.add, ↓reduceIte] at hx232_0)
         (try simp only [show (2 : Int).toNat = 2 from rfl, Nat.reduceMul, Nat.reduceEqDiff, Go.Addr.add, ↓reduceIte] at hx232_1)
         have qi232 : (2 < l0.length) = True := eq_true (by omega)
         (try rw [show ((2 : Int)).toNat = 2 from rfl] at hx232_0)
         (try rw [show 2 * 2 = 4 from rfl] at hx232_0)
         (try rw [show ((2 : Int)).toNat = 2 from rfl] at hx232_1)
         (try rw [show 2 * 2 = 4 from rfl] at hx232_1)
         replace hx232_0 := (HB.out.cell (World.block_lt_of_cell? w _ hx232_0)).trans hx232_0
         replace hx232_1 := (HB.out.cell (World.block_lt_of_cell? w _ hx232_1)).trans hx232_1
         replace p232 := eq_true p232
         replace q232 := eq_true q232
         have p234 : 0 ≤ (3 : Int) := (by omega)
         have q234 : 3 < (l0.length : Int) := of_decide_eq_true (by (with_reducible assumption))
         obtain ⟨ad234, e234, hx234_0, hx234_1⟩ := at_T84 HR0.out 3 p234 q234
         have hw234_1 := hx234_1
         (try rw [show ((3 : Int)).toNat = 3 from rfl] at hw234_1)
         (try rw [show 3 * 2 = 6 from rfl] at hw234_1)
         (try simp only [Nat.reduceMul, Nat.reduceEqDiff, Go.Addr.add, ↓reduceIte] at hw234_1)
         have hw234_0 := hx234_0
         (try rw [show ((3 : Int)).toNat = 3 from rfl] at hw234_0)
         (try rw [show 3 * 2 = 6 from rfl] at hw234_0)
         (try simp only [Nat.reduceMul, Nat.reduceEqDiff, Go.Addr.add, ↓reduceIte] at hw234_0)
         obtain rfl : ad232 = ad234 := (by injection e234)
         (try simp only [show (3 : Int).toNat = 3 from rfl, Nat.reduceMul, Nat.reduceEqDiff, Go.Addr.add, ↓reduceIte] at hx234_0)
         (try simp only [show (3 : Int).toNat = 3 from rfl, Nat.reduceMul, Nat.reduceEqDiff, Go.Addr.add, ↓reduceIte] at hx234_1)
         have qi234 : (3 < l0.length) = True := eq_true (by omega)
         (try rw [show ((3 : Int)).toNat = 3 from rfl] at hx234_0)
         (try rw [show 3 * 2 = 6 from rfl] at hx234_0)
         (try rw [show ((3 : Int)).toNat = 3 from rfl] at hx234_1)
         (try rw [show 3 * 2 = 6 from rfl] at hx234_1)
         replace hx234_0 := (HB.out.cell (World.block_lt_of_cell? w _ hx234_0)).trans hx234_0
         replace hx234_1 := (HB.out.cell (World.block_lt_of_cell? w _ hx234_1)).trans hx234_1
         replace p234 := eq_true p234
         replace q234 := eq_true q234
         refine start_ (n := 12) (S := fun w' => w'.cell? ⟨ad232.block, ad232.off + 4, none⟩ = some (.string ((rd_T84 l0 2).f0)) ∧ w'.cell? ⟨ad232.block, ad232.off + 4 + 1, none⟩ = some (.int .i64 ((rd_T84 l0 2).f1)) ∧ w'.cell? ⟨ad232.block, ad232.off + 6, none⟩ = some (.string ((rd_T84 l0 3).f0)) ∧ w'.cell? ⟨ad232.block, ad232.off + 6 + 1, none⟩ = some (.int .i64 ((rd_T84 l0 3).f1))) (ds := []) #[false, false, false, false, false, false, false, false, false, false, false, false] (by kernel_rfl) rfl rfl ⟨((HB.out.cell (World.block_lt_of_cell? w _ hw232_0)).trans hw232_0), ((HB.out.cell (World.block_lt_of_cell? w _ hw232_1)).trans hw232_1), ((HB.out.cell (World.block_lt_of_cell? w _ hw234_0)).trans hw234_0), ((HB.out.cell (World.block_lt_of_cell? w _ hw234_1)).trans hw234_1)⟩ (fun hHeld => ?_); refine with_tabW depotref03_head.tab3 depotref03_head.bits3 (fun HT_ HW_ => ?_)
         generalize wc.drew = w25 at HB hx232_0 hx232_1 hx234_0 hx234_1 hHeld ⊢
         refine pure_ (i := 0) (N := some 38) (v := ?_) (a' := ?_) #[true, false, false, false, false, false, false, false, false, false, false, false] rfl rfl (any_of HT_.out (by kernel_rfl)) (fun _ _ _ h => h) (Or.inl ⟨by rfl, ?_⟩) ?_ ?_
         rotate_left
         ·intro w'
          go_simp
          with_reducible rfl
         rotate_left
         ·simp only [Act.put, List.setIfInBounds_toArray, List.set_cons_zero, List.set_cons_succ, i64_w, i32_w]
          rfl
         refine pure_ (i := 1) (N := some 39) (v := ?_) (a' := ?_) #[true, true, false, false, false, false, false, false, false, false, false, false] rfl rfl (any_of HT_.out (by kernel_rfl)) (fun _ _ _ h => h) (Or.inl ⟨by rfl, ?_⟩) ?_ ?_
         rotate_left
         ·intro w'
          go_simp
          with_reducible rfl
         rotate_left
         ·simp only [Act.put, List.setIfInBounds_toArray, List.set_cons_zero, List.set_cons_succ, i64_w, i32_w]
          rfl
         refine pure_ (i := 2) (N := some 40) (v := ?_) (a' := ?_) #[true, true, true, false, false, false, false, false, false, false, false, false] rfl rfl (any_of HT_.out (by kernel_rfl)) (fun _ _ _ h => h) (Or.inl ⟨by rfl, ?_⟩) ?_ ?_
         rotate_left
         ·intro w'
          go_simp
          with_reducible rfl
         rotate_left
         ·simp only [Act.put, List.setIfInBounds_toArray, List.set_cons_zero, List.set_cons_succ, i64_w, i32_w]
          rfl
         refine pure_ (i := 5) (N := some 43) (v := ?_) (a' := ?_) #[true, true, true, false, false, true, false, false, false, false, false, false] rfl rfl (any_of HT_.out (by kernel_rfl)) (fun _ _ _ h => h) (Or.inl ⟨by rfl, ?_⟩) ?_ ?_
         rotate_left
         ·intro w'
          go_simp
          with_reducible rfl
         rotate_left
         ·simp only [Act.put, List.setIfInBounds_toArray, List.set_cons_zero, List.set_cons_succ, i64_w, i32_w]
          rfl
         refine pure_ (i := 6) (N := some 44) (v := ?_) (a' := ?_) #[true, true, true, false, false, true, true, false, false, false, false, false] rfl rfl (any_of HT_.out (by kernel_rfl)) (fun _ _ _ h => h) (Or.inl ⟨by rfl, ?_⟩) ?_ ?_
         rotate_left
         ·intro w'
          go_simp
          with_reducible rfl
         rotate_left
         ·simp only [Act.put, List.setIfInBounds_toArray, List.set_cons_zero, List.set_cons_succ, i64_w, i32_w]
          rfl
         refine pure_ (i := 7) (N := some 45) (v := ?_) (a' := ?_) #[true, true, true, false, false, true, true, true, false, false, false, false] rfl rfl (any_of HT_.out (by kernel_rfl)) (fun _ _ _ h => h) (Or.inl ⟨by rfl, ?_⟩) ?_ ?_
         rotate_left
         ·intro w'
          go_simp
          with_reducible rfl
         rotate_left
         ·simp only [Act.put, List.setIfInBounds_toArray, List.set_cons_zero, List.set_cons_succ, i64_w, i32_w]
          rfl
         refine take_ (i := 3) (N := some 41) (v := ?_) (a' := ?_) #[true, true, true, true, false, true, true, true, false, false, false, false] rfl rfl (take_ofW HT_.out HW_.out (by kernel_rfl)) (fun _ _ _ h => h) (Or.inl ⟨by rfl, ?_⟩) hHeld ?_ ?_
         rotate_left
         ·rintro w' ⟨s0, s1, s2, s3⟩
          go_simp
          with_reducible rfl
         rotate_left
         ·simp only [Act.put, List.setIfInBounds_toArray, List.set_cons_zero, List.set_cons_succ, i64_w, i32_w]
          rfl
         refine take_ (i := 8) (N := some 46) (v := ?_) (a' := ?_) #[true, true, true, true, false, true, true, true, true, false, false, false] rfl rfl (take_ofW HT_.out HW_.out (by kernel_rfl)) (fun _ _ _ h => h) (Or.inl ⟨by rfl, ?_⟩) hHeld ?_ ?_
         rotate_left
         ·rintro w' ⟨s0, s1, s2, s3⟩
          go_simp
          with_reducible rfl
         rotate_left
         ·simp only [Act.put, List.setIfInBounds_toArray, List.set_cons_zero, List.set_cons_succ, i64_w, i32_w]
          rfl
         refine one_ (i := 4) (N := some 42) #[true, true, true, true, true, true, true, true, true, false, false, false] rfl rfl (one_of HT_.out (by kernel_rfl)) (by decide) (fun K hK => ?_)
         refine goes_ Tryz.func49 (by kernel_rfl) rfl #[.string ((rd_T84 l0 2).f0)] (by rfl) rfl rfl (by (try simp only [List.map_toArray, List.map_cons, List.map_nil]); rfl) ?_
         with_reducible refine (depotref03_Value.calls ((rd_T84 l0 2).f0) t233 _ ?side1 A16.out).mono ?_
         (case side1 => exact Env.below HE.out (by repeat ((with_reducible exact HB.out))))
         rintro e w26 ⟨rfl, hb⟩
         refine ⟨_, rfl, ?_⟩
         have n0_ := Aside0.mk (below_step (by repeat ((with_reducible exact HB.out))) hb)
         clear HB
         have HB := n0_
         clear n0_
         (try clear hb)
         (try clear hb2)
         (try clear hk)
         (try clear hi)
         refine hK.out _ _ ⟨((HB.out.cell (World.block_lt_of_cell? w _ hw232_0)).trans hw232_0), ((HB.out.cell (World.block_lt_of_cell? w _ hw232_1)).trans hw232_1), ((HB.out.cell (World.block_lt_of_cell? w _ hw234_0)).trans hw234_0), ((HB.out.cell (World.block_lt_of_cell? w _ hw234_1)).trans hw234_1)⟩ (fun hHeld => ?_)
         clear hK K
         refine norm_ (a' := ?_) ?_ ?_
         rotate_left
         ·show Act.put _ (some 42) _ = _
          simp only [Act.put, List.setIfInBounds_toArray, List.set_cons_zero, List.set_cons_succ, i64_w, i32_w]
          rfl
         refine one_ (i := 9) (N := some 47) #[true, true, true, true, true, true, true, true, true, true, false, false] rfl rfl (one_of HT_.out (by kernel_rfl)) (by decide) (fun K hK => ?_)
         refine goes_ Tryz.func49 (by kernel_rfl) rfl #[.string ((rd_T84 l0 3).f0)] (by rfl) rfl rfl (by (try simp only [List.map_toArray, List.map_cons, List.map_nil]); rfl) ?_
         with_reducible refine (depotref03_Value.calls ((rd_T84 l0 3).f0) t235 _ ?side1 A18.out).mono ?_
         (case side1 => exact Env.below HE.out (by repeat ((with_reducible exact HB.out))))
         rintro e w27 ⟨rfl, hb⟩
         refine ⟨_, rfl, ?_⟩
         have n0_ := Aside0.mk (below_step (by repeat ((with_reducible exact HB.out))) hb)
         clear HB
         have HB := n0_
         clear n0_
         (try clear hb)
         (try clear hb2)
         (try clear hk)
         (try clear hi)
         refine hK.out _ _ ⟨((HB.out.cell (World.block_lt_of_cell? w _ hw232_0)).trans hw232_0), ((HB.out.cell (World.block_lt_of_cell? w _ hw232_1)).trans hw232_1), ((HB.out.cell (World.block_lt_of_cell? w _ hw234_0)).trans hw234_0), ((HB.out.cell (World.block_lt_of_cell? w _ hw234_1)).trans hw234_1)⟩ (fun hHeld => ?_)
         clear hK K
         refine norm_ (a' := ?_) ?_ ?_
         rotate_left
         ·show Act.put _ (some 47) _ = _
          simp only [Act.put, List.setIfInBounds_toArray, List.set_cons_zero, List.set_cons_succ, i64_w, i32_w]
          rfl
         refine pure_ (i := 10) (N := some 3) (v := ?_) (a' := ?_) #[true, true, true, true, true, true, true, true, true, true, true, false] rfl rfl (any_of HT_.out (by kernel_rfl)) (fun _ _ _ h => h) (Or.inl ⟨by rfl, ?_⟩) ?_ ?_
         rotate_left
         ·intro w'
          go_simp
          with_reducible rfl
         rotate_left
         ·simp only [Act.put, List.setIfInBounds_toArray, List.set_cons_zero, List.set_cons_succ, i64_w, i32_w]
          rfl
         refine pure_ (i := 11) (N := some 4) (v := ?_) (a' := ?_) #[true, true, true, true, true, true, true, true, true, true, true, true] rfl rfl (any_of HT_.out (by kernel_rfl)) (fun _ _ _ h => h) (Or.inl ⟨by rfl, ?_⟩) ?_ ?_
         rotate_left
         ·intro w'
          go_simp
          with_reducible rfl
         rotate_left
         ·simp only [Act.put, List.setIfInBounds_toArray, List.set_cons_zero, List.set_cons_succ, i64_w, i32_w]
          rfl
         refine done_ (done_of HT_.out (by kernel_rfl)) ?_
         try go_wp2
         go_ret
         exact ⟨by rfl, by repeat ((with_reducible exact HB.out))⟩
       ·rw [if_neg c20] at H
        have c20b0 : decide (t233 ≤ 1048576) = false := decide_eq_false c20
        clear c20
        obtain rfl := Option.some.inj H
        try go_wp2
        have n0_ := Aside0.mk (below_drew1 HB.out)
        clear HB
        have HB := n0_
        clear n0_
        have p232 : 0 ≤ (2 : Int) := (by omega)
        have q232 : 2 < (l0.length : Int) := of_decide_eq_true (by (with_reducible assumption))
        obtain ⟨ad232, e232, hx232_0, hx232_1⟩ := at_T84 HR0.out 2 p232 q232
        have hw232_1 := hx232_1
        (try rw [show ((2 : Int)).toNat = 2 from rfl] at hw232_1)
        (try rw [show 2 * 2 = 4 from rfl] at hw232_1)
        (try simp only [Nat.reduceMul, Nat.reduceEqDiff, Go.Addr.add, ↓reduceIte] at hw232_1)
        have hw232_0 := hx232_0
        (try rw [show ((2 : Int)).toNat = 2 from rfl] at hw232_0)
        (try rw [show 2 * 2 = 4 from rfl] at hw232_0)
        (try simp only [Nat.reduceMul, Nat.reduceEqDiff, Go.Addr.add, ↓reduceIte] at hw232_0)
        cases e232
        (try simp only [show (2 : Int).toNat = 2 from rfl, Nat.reduceMul, Nat.reduceEqDiff, Go.Addr.add, ↓reduceIte] at hx232_0)
        (try simp only [show (2 : Int).toNat = 2 from rfl, Nat.reduceMul, Nat.reduceEqDiff, Go.Addr.add, ↓reduceIte] at hx232_1)
        have qi232 : (2 < l0.length) = True := eq_true (by omega)
        (try rw [show ((2 : Int)).toNat = 2 from rfl] at hx232_0)
        (try rw [show 2 * 2 = 4 from rfl] at hx232_0)
        (try rw [show ((2 : Int)).toNat = 2 from rfl] at hx232_1)
        (try rw [show 2 * 2 = 4 from rfl] at hx232_1)
        replace hx232_0 := (HB.out.cell (World.block_lt_of_cell? w _ hx232_0)).trans hx232_0
        replace hx232_1 := (HB.out.cell (World.block_lt_of_cell? w _ hx232_1)).trans hx232_1
        replace p232 := eq_true p232
        replace q232 := eq_true q232
        have p234 : 0 ≤ (3 : Int) := (by omega)
        have q234 : 3 < (l0.length : Int) := of_decide_eq_true (by (with_reducible assumption))
        obtain ⟨ad234, e234, hx234_0, hx234_1⟩ := at_T84 HR0.out 3 p234 q234
        have hw234_1 := hx234_1
        (try rw [show ((3 : Int)).toNat = 3 from rfl] at hw234_1)
        (try rw [show 3 * 2 = 6 from rfl] at hw234_1)
        (try simp only [Nat.reduceMul, Nat.reduceEqDiff, Go.Addr.add, ↓reduceIte] at hw234_1)
        have hw234_0 := hx234_0
        (try rw [show ((3 : Int)).toNat = 3 from rfl] at hw234_0)
        (try rw [show 3 * 2 = 6 from rfl] at hw234_0)
        (try simp only [Nat.reduceMul, Nat.reduceEqDiff, Go.Addr.add, ↓reduceIte] at hw234_0)
        obtain rfl : ad232 = ad234 := (by injection e234)
        (try simp only [show (3 : Int).toNat = 3 from rfl, Nat.reduceMul, Nat.reduceEqDiff, Go.Addr.add, ↓reduceIte] at hx234_0)
        (try simp only [show (3 : Int).toNat = 3 from rfl, Nat.reduceMul, Nat.reduceEqDiff, Go.Addr.add, ↓reduceIte] at hx234_1)
        have qi234 : (3 < l0.length) = True := eq_true (by omega)
        (try rw [show ((3 : Int)).toNat = 3 from rfl] at hx234_0)
        (try rw [show 3 * 2 = 6 from rfl] at hx234_0)
        (try rw [show ((3 : Int)).toNat = 3 from rfl] at hx234_1)
        (try rw [show 3 * 2 = 6 from rfl] at hx234_1)
        replace hx234_0 := (HB.out.cell (World.block_lt_of_cell? w _ hx234_0)).trans hx234_0
        replace hx234_1 := (HB.out.cell (World.block_lt_of_cell? w _ hx234_1)).trans hx234_1
        replace p234 := eq_true p234
        replace q234 := eq_true q234
        refine start_ (n := 12) (S := fun w' => w'.cell? ⟨ad232.block, ad232.off + 4, none⟩ = some (.string ((rd_T84 l0 2).f0)) ∧ w'.cell? ⟨ad232.block, ad232.off + 4 + 1, none⟩ = some (.int .i64 ((rd_T84 l0 2).f1)) ∧ w'.cell? ⟨ad232.block, ad232.off + 6, none⟩ = some (.string ((rd_T84 l0 3).f0)) ∧ w'.cell? ⟨ad232.block, ad232.off + 6 + 1, none⟩ = some (.int .i64 ((rd_T84 l0 3).f1))) (ds := []) #[false, false, false, false, false, false, false, false, false, false, false, false] (by kernel_rfl) rfl rfl ⟨((HB.out.cell (World.block_lt_of_cell? w _ hw232_0)).trans hw232_0), ((HB.out.cell (World.block_lt_of_cell? w _ hw232_1)).trans hw232_1), ((HB.out.cell (World.block_lt_of_cell? w _ hw234_0)).trans hw234_0), ((HB.out.cell (World.block_lt_of_cell? w _ hw234_1)).trans hw234_1)⟩ (fun hHeld => ?_); refine with_tabW depotref03_head.tab3 depotref03_head.bits3 (fun HT_ HW_ => ?_)
        generalize wc.drew = w28 at HB hx232_0 hx232_1 hx234_0 hx234_1 hHeld ⊢
        refine pure_ (i := 0) (N := some 38) (v := ?_) (a' := ?_) #[true, false, false, false, false, false, false, false, false, false, false, false] rfl rfl (any_of HT_.out (by kernel_rfl)) (fun _ _ _ h => h) (Or.inl ⟨by rfl, ?_⟩) ?_ ?_
        rotate_left
        ·intro w'
         go_simp
         with_reducible rfl
        rotate_left
        ·simp only [Act.put, List.setIfInBounds_toArray, List.set_cons_zero, List.set_cons_succ, i64_w, i32_w]
         rfl
        refine pure_ (i := 1) (N := some 39) (v := ?_) (a' := ?_) #[true, true, false, false, false, false, false, false, false, false, false, false] rfl rfl (any_of HT_.out (by kernel_rfl)) (fun _ _ _ h => h) (Or.inl ⟨by rfl, ?_⟩) ?_ ?_
        rotate_left
        ·intro w'
         go_simp
         with_reducible rfl
        rotate_left
        ·simp only [Act.put, List.setIfInBounds_toArray, List.set_cons_zero, List.set_cons_succ, i64_w, i32_w]
         rfl
        refine pure_ (i := 2) (N := some 40) (v := ?_) (a' := ?_) #[true, true, true, false, false, false, false, false, false, false, false, false] rfl rfl (any_of HT_.out (by kernel_rfl)) (fun _ _ _ h => h) (Or.inl ⟨by rfl, ?_⟩) ?_ ?_
        rotate_left
        ·intro w'
         go_simp
         with_reducible rfl
        rotate_left
        ·simp only [Act.put, List.setIfInBounds_toArray, List.set_cons_zero, List.set_cons_succ, i64_w, i32_w]
         rfl
        refine pure_ (i := 5) (N := some 43) (v := ?_) (a' := ?_) #[true, true, true, false, false, true, false, false, false, false, false, false] rfl rfl (any_of HT_.out (by kernel_rfl)) (fun _ _ _ h => h) (Or.inl ⟨by rfl, ?_⟩) ?_ ?_
        rotate_left
        ·intro w'
         go_simp
         with_reducible rfl
        rotate_left
        ·simp only [Act.put, List.setIfInBounds_toArray, List.set_cons_zero, List.set_cons_succ, i64_w, i32_w]
         rfl
        refine pure_ (i := 6) (N := some 44) (v := ?_) (a' := ?_) #[true, true, true, false, false, true, true, false, false, false, false, false] rfl rfl (any_of HT_.out (by kernel_rfl)) (fun _ _ _ h => h) (Or.inl ⟨by rfl, ?_⟩) ?_ ?_
        rotate_left
        ·intro w'
         go_simp
         with_reducible rfl
        rotate_left
        ·simp only [Act.put, List.setIfInBounds_toArray, List.set_cons_zero, List.set_cons_succ, i64_w, i32_w]
         rfl
        refine pure_ (i := 7) (N := some 45) (v := ?_) (a' := ?_) #[true, true, true, false, false, true, true, true, false, false, false, false] rfl rfl (any_of HT_.out (by kernel_rfl)) (fun _ _ _ h => h) (Or.inl ⟨by rfl, ?_⟩) ?_ ?_
        rotate_left
        ·intro w'
         go_simp
         with_reducible rfl
        rotate_left
        ·simp only [Act.put, List.setIfInBounds_toArray, List.set_cons_zero, List.set_cons_succ, i64_w, i32_w]
         rfl
        refine take_ (i := 3) (N := some 41) (v := ?_) (a' := ?_) #[true, true, true, true, false, true, true, true, false, false, false, false] rfl rfl (take_ofW HT_.out HW_.out (by kernel_rfl)) (fun _ _ _ h => h) (Or.inl ⟨by rfl, ?_⟩) hHeld ?_ ?_
        rotate_left
        ·rintro w' ⟨s0, s1, s2, s3⟩
         go_simp
         with_reducible rfl
        rotate_left
        ·simp only [Act.put, List.setIfInBounds_toArray, List.set_cons_zero, List.set_cons_succ, i64_w, i32_w]
         rfl
        refine take_ (i := 8) (N := some 46) (v := ?_) (a' := ?_) #[true, true, true, true, false, true, true, true, true, false, false, false] rfl rfl (take_ofW HT_.out HW_.out (by kernel_rfl)) (fun _ _ _ h => h) (Or.inl ⟨by rfl, ?_⟩) hHeld ?_ ?_
        rotate_left
        ·rintro w' ⟨s0, s1, s2, s3⟩
         go_simp
         with_reducible rfl
        rotate_left
        ·simp only [Act.put, List.setIfInBounds_toArray, List.set_cons_zero, List.set_cons_succ, i64_w, i32_w]
         rfl
        refine one_ (i := 4) (N := some 42) #[true, true, true, true, true, true, true, true, true, false, false, false] rfl rfl (one_of HT_.out (by kernel_rfl)) (by decide) (fun K hK => ?_)
        refine goes_ Tryz.func49 (by kernel_rfl) rfl #[.string ((rd_T84 l0 2).f0)] (by rfl) rfl rfl (by (try simp only [List.map_toArray, List.map_cons, List.map_nil]); rfl) ?_
        with_reducible refine (depotref03_Value.calls ((rd_T84 l0 2).f0) t233 _ ?side1 A16.out).mono ?_
        (case side1 => exact Env.below HE.out (by repeat ((with_reducible exact HB.out))))
        rintro e w29 ⟨rfl, hb⟩
        refine ⟨_, rfl, ?_⟩
        have n0_ := Aside0.mk (below_step (by repeat ((with_reducible exact HB.out))) hb)
        clear HB
        have HB := n0_
        clear n0_
        (try clear hb)
        (try clear hb2)
        (try clear hk)
        (try clear hi)
        refine hK.out _ _ ⟨((HB.out.cell (World.block_lt_of_cell? w _ hw232_0)).trans hw232_0), ((HB.out.cell (World.block_lt_of_cell? w _ hw232_1)).trans hw232_1), ((HB.out.cell (World.block_lt_of_cell? w _ hw234_0)).trans hw234_0), ((HB.out.cell (World.block_lt_of_cell? w _ hw234_1)).trans hw234_1)⟩ (fun hHeld => ?_)
        clear hK K
        refine norm_ (a' := ?_) ?_ ?_
        rotate_left
        ·show Act.put _ (some 42) _ = _
         simp only [Act.put, List.setIfInBounds_toArray, List.set_cons_zero, List.set_cons_succ, i64_w, i32_w]
         rfl
        refine one_ (i := 9) (N := some 47) #[true, true, true, true, true, true, true, true, true, true, false, false] rfl rfl (one_of HT_.out (by kernel_rfl)) (by decide) (fun K hK => ?_)
        refine goes_ Tryz.func49 (by kernel_rfl) rfl #[.string ((rd_T84 l0 3).f0)] (by rfl) rfl rfl (by (try simp only [List.map_toArray, List.map_cons, List.map_nil]); rfl) ?_
        with_reducible refine (depotref03_Value.calls ((rd_T84 l0 3).f0) t235 _ ?side1 A18.out).mono ?_
        (case side1 => exact Env.below HE.out (by repeat ((with_reducible exact HB.out))))
        rintro e w30 ⟨rfl, hb⟩
        refine ⟨_, rfl, ?_⟩
        have n0_ := Aside0.mk (below_step (by repeat ((with_reducible exact HB.out))) hb)
        clear HB
        have HB := n0_
        clear n0_
        (try clear hb)
        (try clear hb2)
        (try clear hk)
        (try clear hi)
        refine hK.out _ _ ⟨((HB.out.cell (World.block_lt_of_cell? w _ hw232_0)).trans hw232_0), ((HB.out.cell (World.block_lt_of_cell? w _ hw232_1)).trans hw232_1), ((HB.out.cell (World.block_lt_of_cell? w _ hw234_0)).trans hw234_0), ((HB.out.cell (World.block_lt_of_cell? w _ hw234_1)).trans hw234_1)⟩ (fun hHeld => ?_)
        clear hK K
        refine norm_ (a' := ?_) ?_ ?_
        rotate_left
        ·show Act.put _ (some 47) _ = _
         simp only [Act.put, List.setIfInBounds_toArray, List.set_cons_zero, List.set_cons_succ, i64_w, i32_w]
         rfl
        refine pure_ (i := 10) (N := some 3) (v := ?_) (a' := ?_) #[true, true, true, true, true, true, true, true, true, true, true, false] rfl rfl (any_of HT_.out (by kernel_rfl)) (fun _ _ _ h => h) (Or.inl ⟨by rfl, ?_⟩) ?_ ?_
        rotate_left
        ·intro w'
         go_simp
         with_reducible rfl
        rotate_left
        ·simp only [Act.put, List.setIfInBounds_toArray, List.set_cons_zero, List.set_cons_succ, i64_w, i32_w]
         rfl
        refine pure_ (i := 11) (N := some 4) (v := ?_) (a' := ?_) #[true, true, true, true, true, true, true, true, true, true, true, true] rfl rfl (any_of HT_.out (by kernel_rfl)) (fun _ _ _ h => h) (Or.inl ⟨by rfl, ?_⟩) ?_ ?_
        rotate_left
        ·intro w'
         go_simp
         with_reducible rfl
        rotate_left
        ·simp only [Act.put, List.setIfInBounds_toArray, List.set_cons_zero, List.set_cons_succ, i64_w, i32_w]
         rfl
        refine done_ (done_of HT_.out (by kernel_rfl)) ?_
        try go_wp2
        go_ret
        exact ⟨by rfl, by repeat ((with_reducible exact HB.out))⟩
      ·rw [if_neg c19] at H
       have c19b0 : decide (0 ≤ t233) = false := decide_eq_false c19
       clear c19
       obtain rfl := Option.some.inj H
       try go_wp2
       have n0_ := Aside0.mk (below_drew1 HB.out)
       clear HB
       have HB := n0_
       clear n0_
       have p232 : 0 ≤ (2 : Int) := (by omega)
       have q232 : 2 < (l0.length : Int) := of_decide_eq_true (by (with_reducible assumption))
       obtain ⟨ad232, e232, hx232_0, hx232_1⟩ := at_T84 HR0.out 2 p232 q232
       have hw232_1 := hx232_1
       (try rw [show ((2 : Int)).toNat = 2 from rfl] at hw232_1)
       (try rw [show 2 * 2 = 4 from rfl] at hw232_1)
       (try simp only [Nat.reduceMul, Nat.reduceEqDiff, Go.Addr.add, ↓reduceIte] at hw232_1)
       have hw232_0 := hx232_0
       (try rw [show ((2 : Int)).toNat = 2 from rfl] at hw232_0)
       (try rw [show 2 * 2 = 4 from rfl] at hw232_0)
       (try simp only [Nat.reduceMul, Nat.reduceEqDiff, Go.Addr.add, ↓reduceIte] at hw232_0)
       cases e232
       (try simp only [show (2 : Int).toNat = 2 from rfl, Nat.reduceMul, Nat.reduceEqDiff, Go.Addr.add, ↓reduceIte] at hx232_0)
       (try simp only [show (2 : Int).toNat = 2 from rfl, Nat.reduceMul, Nat.reduceEqDiff, Go.Addr.add, ↓reduceIte] at hx232_1)
       have qi232 : (2 < l0.length) = True := eq_true (by omega)
       (try rw [show ((2 : Int)).toNat = 2 from rfl] at hx232_0)
       (try rw [show 2 * 2 = 4 from rfl] at hx232_0)
       (try rw [show ((2 : Int)).toNat = 2 from rfl] at hx232_1)
       (try rw [show 2 * 2 = 4 from rfl] at hx232_1)
       replace hx232_0 := (HB.out.cell (World.block_lt_of_cell? w _ hx232_0)).trans hx232_0
       replace hx232_1 := (HB.out.cell (World.block_lt_of_cell? w _ hx232_1)).trans hx232_1
       replace p232 := eq_true p232
       replace q232 := eq_true q232
       have p234 : 0 ≤ (3 : Int) := (by omega)
       have q234 : 3 < (l0.length : Int) := of_decide_eq_true (by (with_reducible assumption))
       obtain ⟨ad234, e234, hx234_0, hx234_1⟩ := at_T84 HR0.out 3 p234 q234
       have hw234_1 := hx234_1
       (try rw [show ((3 : Int)).toNat = 3 from rfl] at hw234_1)
       (try rw [show 3 * 2 = 6 from rfl] at hw234_1)
       (try simp only [Nat.reduceMul, Nat.reduceEqDiff, Go.Addr.add, ↓reduceIte] at hw234_1)
       have hw234_0 := hx234_0
       (try rw [show ((3 : Int)).toNat = 3 from rfl] at hw234_0)
       (try rw [show 3 * 2 = 6 from rfl] at hw234_0)
       (try simp only [Nat.reduceMul, Nat.reduceEqDiff, Go.Addr.add, ↓reduceIte] at hw234_0)
       obtain rfl : ad232 = ad234 := (by injection e234)
       (try simp only [show (3 : Int).toNat = 3 from rfl, Nat.reduceMul, Nat.reduceEqDiff, Go.Addr.add, ↓reduceIte] at hx234_0)
       (try simp only [show (3 : Int).toNat = 3 from rfl, Nat.reduceMul, Nat.reduceEqDiff, Go.Addr.add, ↓reduceIte] at hx234_1)
       have qi234 : (3 < l0.length) = True := eq_true (by omega)
       (try rw [show ((3 : Int)).toNat = 3 from rfl] at hx234_0)
       (try rw [show 3 * 2 = 6 from rfl] at hx234_0)
       (try rw [show ((3 : Int)).toNat = 3 from rfl] at hx234_1)
       (try rw [show 3 * 2 = 6 from rfl] at hx234_1)
       replace hx234_0 := (HB.out.cell (World.block_lt_of_cell? w _ hx234_0)).trans hx234_0
       replace hx234_1 := (HB.out.cell (World.block_lt_of_cell? w _ hx234_1)).trans hx234_1
       replace p234 := eq_true p234
       replace q234 := eq_true q234
       refine start_ (n := 12) (S := fun w' => w'.cell? ⟨ad232.block, ad232.off + 4, none⟩ = some (.string ((rd_T84 l0 2).f0)) ∧ w'.cell? ⟨ad232.block, ad232.off + 4 + 1, none⟩ = some (.int .i64 ((rd_T84 l0 2).f1)) ∧ w'.cell? ⟨ad232.block, ad232.off + 6, none⟩ = some (.string ((rd_T84 l0 3).f0)) ∧ w'.cell? ⟨ad232.block, ad232.off + 6 + 1, none⟩ = some (.int .i64 ((rd_T84 l0 3).f1))) (ds := []) #[false, false, false, false, false, false, false, false, false, false, false, false] (by kernel_rfl) rfl rfl ⟨((HB.out.cell (World.block_lt_of_cell? w _ hw232_0)).trans hw232_0), ((HB.out.cell (World.block_lt_of_cell? w _ hw232_1)).trans hw232_1), ((HB.out.cell (World.block_lt_of_cell? w _ hw234_0)).trans hw234_0), ((HB.out.cell (World.block_lt_of_cell? w _ hw234_1)).trans hw234_1)⟩ (fun hHeld => ?_); refine with_tabW depotref03_head.tab3 depotref03_head.bits3 (fun HT_ HW_ => ?_)
       generalize wc.drew = w31 at HB hx232_0 hx232_1 hx234_0 hx234_1 hHeld ⊢
       refine pure_ (i := 0) (N := some 38) (v := ?_) (a' := ?_) #[true, false, false, false, false, false, false, false, false, false, false, false] rfl rfl (any_of HT_.out (by kernel_rfl)) (fun _ _ _ h => h) (Or.inl ⟨by rfl, ?_⟩) ?_ ?_
       rotate_left
       ·intro w'
        go_simp
        with_reducible rfl
       rotate_left
       ·simp only [Act.put, List.setIfInBounds_toArray, List.set_cons_zero, List.set_cons_succ, i64_w, i32_w]
        rfl
       refine pure_ (i := 1) (N := some 39) (v := ?_) (a' := ?_) #[true, true, false, false, false, false, false, false, false, false, false, false] rfl rfl (any_of HT_.out (by kernel_rfl)) (fun _ _ _ h => h) (Or.inl ⟨by rfl, ?_⟩) ?_ ?_
       rotate_left
       ·intro w'
        go_simp
        with_reducible rfl
       rotate_left
       ·simp only [Act.put, List.setIfInBounds_toArray, List.set_cons_zero, List.set_cons_succ, i64_w, i32_w]
        rfl
       refine pure_ (i := 2) (N := some 40) (v := ?_) (a' := ?_) #[true, true, true, false, false, false, false, false, false, false, false, false] rfl rfl (any_of HT_.out (by kernel_rfl)) (fun _ _ _ h => h) (Or.inl ⟨by rfl, ?_⟩) ?_ ?_
       rotate_left
       ·intro w'
        go_simp
        with_reducible rfl
       rotate_left
       ·simp only [Act.put, List.setIfInBounds_toArray, List.set_cons_zero, List.set_cons_succ, i64_w, i32_w]
        rfl
       refine pure_ (i := 5) (N := some 43) (v := ?_) (a' := ?_) #[true, true, true, false, false, true, false, false, false, false, false, false] rfl rfl (any_of HT_.out (by kernel_rfl)) (fun _ _ _ h => h) (Or.inl ⟨by rfl, ?_⟩) ?_ ?_
       rotate_left
       ·intro w'
        go_simp
        with_reducible rfl
       rotate_left
       ·simp only [Act.put, List.setIfInBounds_toArray, List.set_cons_zero, List.set_cons_succ, i64_w, i32_w]
        rfl
       refine pure_ (i := 6) (N := some 44) (v := ?_) (a' := ?_) #[true, true, true, false, false, true, true, false, false, false, false, false] rfl rfl (any_of HT_.out (by kernel_rfl)) (fun _ _ _ h => h) (Or.inl ⟨by rfl, ?_⟩) ?_ ?_
       rotate_left
       ·intro w'
        go_simp
        with_reducible rfl
       rotate_left
       ·simp only [Act.put, List.setIfInBounds_toArray, List.set_cons_zero, List.set_cons_succ, i64_w, i32_w]
        rfl
       refine pure_ (i := 7) (N := some 45) (v := ?_) (a' := ?_) #[true, true, true, false, false, true, true, true, false, false, false, false] rfl rfl (any_of HT_.out (by kernel_rfl)) (fun _ _ _ h => h) (Or.inl ⟨by rfl, ?_⟩) ?_ ?_
       rotate_left
       ·intro w'
        go_simp
        with_reducible rfl
       rotate_left
       ·simp only [Act.put, List.setIfInBounds_toArray, List.set_cons_zero, List.set_cons_succ, i64_w, i32_w]
        rfl
       refine take_ (i := 3) (N := some 41) (v := ?_) (a' := ?_) #[true, true, true, true, false, true, true, true, false, false, false, false] rfl rfl (take_ofW HT_.out HW_.out (by kernel_rfl)) (fun _ _ _ h => h) (Or.inl ⟨by rfl, ?_⟩) hHeld ?_ ?_
       rotate_left
       ·rintro w' ⟨s0, s1, s2, s3⟩
        go_simp
        with_reducible rfl
       rotate_left
       ·simp only [Act.put, List.setIfInBounds_toArray, List.set_cons_zero, List.set_cons_succ, i64_w, i32_w]
        rfl
       refine take_ (i := 8) (N := some 46) (v := ?_) (a' := ?_) #[true, true, true, true, false, true, true, true, true, false, false, false] rfl rfl (take_ofW HT_.out HW_.out (by kernel_rfl)) (fun _ _ _ h => h) (Or.inl ⟨by rfl, ?_⟩) hHeld ?_ ?_
       rotate_left
       ·rintro w' ⟨s0, s1, s2, s3⟩
        go_simp
        with_reducible rfl
       rotate_left
       ·simp only [Act.put, List.setIfInBounds_toArray, List.set_cons_zero, List.set_cons_succ, i64_w, i32_w]
        rfl
       refine one_ (i := 4) (N := some 42) #[true, true, true, true, true, true, true, true, true, false, false, false] rfl rfl (one_of HT_.out (by kernel_rfl)) (by decide) (fun K hK => ?_)
       refine goes_ Tryz.func49 (by kernel_rfl) rfl #[.string ((rd_T84 l0 2).f0)] (by rfl) rfl rfl (by (try simp only [List.map_toArray, List.map_cons, List.map_nil]); rfl) ?_
       with_reducible refine (depotref03_Value.calls ((rd_T84 l0 2).f0) t233 _ ?side1 A16.out).mono ?_
       (case side1 => exact Env.below HE.out (by repeat ((with_reducible exact HB.out))))
       rintro e w32 ⟨rfl, hb⟩
       refine ⟨_, rfl, ?_⟩
       have n0_ := Aside0.mk (below_step (by repeat ((with_reducible exact HB.out))) hb)
       clear HB
       have HB := n0_
       clear n0_
       (try clear hb)
       (try clear hb2)
       (try clear hk)
       (try clear hi)
       refine hK.out _ _ ⟨((HB.out.cell (World.block_lt_of_cell? w _ hw232_0)).trans hw232_0), ((HB.out.cell (World.block_lt_of_cell? w _ hw232_1)).trans hw232_1), ((HB.out.cell (World.block_lt_of_cell? w _ hw234_0)).trans hw234_0), ((HB.out.cell (World.block_lt_of_cell? w _ hw234_1)).trans hw234_1)⟩ (fun hHeld => ?_)
       clear hK K
       refine norm_ (a' := ?_) ?_ ?_
       rotate_left
       ·show Act.put _ (some 42) _ = _
        simp only [Act.put, List.setIfInBounds_toArray, List.set_cons_zero, List.set_cons_succ, i64_w, i32_w]
        rfl
       refine one_ (i := 9) (N := some 47) #[true, true, true, true, true, true, true, true, true, true, false, false] rfl rfl (one_of HT_.out (by kernel_rfl)) (by decide) (fun K hK => ?_)
       refine goes_ Tryz.func49 (by kernel_rfl) rfl #[.string ((rd_T84 l0 3).f0)] (by rfl) rfl rfl (by (try simp only [List.map_toArray, List.map_cons, List.map_nil]); rfl) ?_
       with_reducible refine (depotref03_Value.calls ((rd_T84 l0 3).f0) t235 _ ?side1 A18.out).mono ?_
       (case side1 => exact Env.below HE.out (by repeat ((with_reducible exact HB.out))))
       rintro e w33 ⟨rfl, hb⟩
       refine ⟨_, rfl, ?_⟩
       have n0_ := Aside0.mk (below_step (by repeat ((with_reducible exact HB.out))) hb)
       clear HB
       have HB := n0_
       clear n0_
       (try clear hb)
       (try clear hb2)
       (try clear hk)
       (try clear hi)
       refine hK.out _ _ ⟨((HB.out.cell (World.block_lt_of_cell? w _ hw232_0)).trans hw232_0), ((HB.out.cell (World.block_lt_of_cell? w _ hw232_1)).trans hw232_1), ((HB.out.cell (World.block_lt_of_cell? w _ hw234_0)).trans hw234_0), ((HB.out.cell (World.block_lt_of_cell? w _ hw234_1)).trans hw234_1)⟩ (fun hHeld => ?_)
       clear hK K
       refine norm_ (a' := ?_) ?_ ?_
       rotate_left
       ·show Act.put _ (some 47) _ = _
        simp only [Act.put, List.setIfInBounds_toArray, List.set_cons_zero, List.set_cons_succ, i64_w, i32_w]
        rfl
       refine pure_ (i := 10) (N := some 3) (v := ?_) (a' := ?_) #[true, true, true, true, true, true, true, true, true, true, true, false] rfl rfl (any_of HT_.out (by kernel_rfl)) (fun _ _ _ h => h) (Or.inl ⟨by rfl, ?_⟩) ?_ ?_
       rotate_left
       ·intro w'
        go_simp
        with_reducible rfl
       rotate_left
       ·simp only [Act.put, List.setIfInBounds_toArray, List.set_cons_zero, List.set_cons_succ, i64_w, i32_w]
        rfl
       refine pure_ (i := 11) (N := some 4) (v := ?_) (a' := ?_) #[true, true, true, true, true, true, true, true, true, true, true, true] rfl rfl (any_of HT_.out (by kernel_rfl)) (fun _ _ _ h => h) (Or.inl ⟨by rfl, ?_⟩) ?_ ?_
       rotate_left
       ·intro w'
        go_simp
        with_reducible rfl
       rotate_left
       ·simp only [Act.put, List.setIfInBounds_toArray, List.set_cons_zero, List.set_cons_succ, i64_w, i32_w]
        rfl
       refine done_ (done_of HT_.out (by kernel_rfl)) ?_
       try go_wp2
       go_ret
       exact ⟨by rfl, by repeat ((with_reducible exact HB.out))⟩
     ·rw [if_neg c17] at H
      exact absurd H (by simp)
    ·rw [if_neg c15] at H
     exact absurd H (by simp)

end Go.Proofs.YtlhajfepcggjaaaGreatDoor.R
