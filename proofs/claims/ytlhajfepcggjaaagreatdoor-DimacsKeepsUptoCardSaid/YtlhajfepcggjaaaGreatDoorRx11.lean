/- Lean functions of the Go functions that the laws of this seat reach, and the proof that each call comes to them: written by a program of this session (wip/printx.sh) over the kit's print. No conditions. -/
import Derived.Test.YtlhajfepcggjaaaGreatDoorRx0
import Derived.Test.YtlhajfepcggjaaaGreatDoorRx4
import Derived.Test.YtlhajfepcggjaaaGreatDoorRx5
import Derived.Test.YtlhajfepcggjaaaGreatDoorEValueU
namespace Go.Proofs.YtlhajfepcggjaaaGreatDoor.R
open Go.RowKit Go.Proofs.YtlhajfepcggjaaaGreatDoorW.PrintWords Go.Proofs.YtlhajfepcggjaaaGreatDoorW.PrintLast Go.Proofs.YtlhajfepcggjaaaGreatDoorW.PrintMore
attribute [local go_sem] max2_int min2_int max_two min_two max_three min_three max_four min_four   -- for this text's walks alone
set_option linter.unusedVariables false
set_option linter.unusedSimpArgs false

/-! ### depotref03_ReadAnswer: function 33 -/
def depotref03_ReadAnswer.l0 : Nat → List ByteArray → List (S84) → List Bool → Bool → Int → Option (Bool × List Bool × Int × Int)
 | 0, _, _, _, _, _ => none
 | k + 1, x6, x7, x8, x9, x10 => if x10 < (x7.length : Int) then (if 0 ≤ x10 then (if 0 ≤ (wrap64 (x10 - 1)) then (if (wrap64 (x10 - 1)) < (x7.length : Int) then (if ((rd_T84 x7 x10).f1) = ((rd_T84 x7 (wrap64 (x10 - 1))).f1) then (if x9 = true then (some (false, ([] : List Bool), 35, (rd_T84 x7 x10).f1)) else ((depotref03_Tens.f k ((rd_T84 x7 x10).f0)).bind fun t278 => (if t278 = true then ((depotref03_Value.f ((rd_T84 x7 x10).f0)).bind fun t281 => (if t281 = 0 then (depotref03_ReadAnswer.l0 k x6 x7 x8 true (wrap64 (x10 + 1))) else (if (wrap64 ((x8.length : Int) + 1)) ≤ 1048576 then (if t281 = (wrap64 ((x8.length : Int) + 1)) then (if x8.length < 140737488355328 then (depotref03_ReadAnswer.l0 k x6 x7 (x8 ++ [(t281 == (wrap64 ((x8.length : Int) + 1)))]) x9 (wrap64 (x10 + 1))) else (none)) else (if t281 = (wrap64 (-(wrap64 ((x8.length : Int) + 1)))) then (if x8.length < 140737488355328 then (depotref03_ReadAnswer.l0 k x6 x7 (x8 ++ [(t281 == (wrap64 ((x8.length : Int) + 1)))]) x9 (wrap64 (x10 + 1))) else (none)) else (some (false, ([] : List Bool), 32, (rd_T84 x7 x10).f1)))) else (some (false, ([] : List Bool), 32, (rd_T84 x7 x10).f1))))) else (some (false, ([] : List Bool), 31, (rd_T84 x7 x10).f1))))) else (if ((rd_T84 x7 x10).f0).toList = ([118] : List UInt8) then (depotref03_ReadAnswer.l0 k x6 x7 x8 x9 (wrap64 (x10 + 1))) else (some (false, ([] : List Bool), 35, (rd_T84 x7 x10).f1)))) else (none)) else (none)) else (none)) else (if x9 = true then (some (true, x8, 0, 0)) else (some (false, ([] : List Bool), 33, wrap64 ((x6.length : Int) + 1))))
def depotref03_ReadAnswer.f (k : Nat) (a0 : ByteArray) : Option (Bool × List Bool × Int × Int) := (depotref03_Lines.f k a0).bind fun t262 => ((depotref03_Spoken.f k t262).bind fun t265 => (if (t265.length : Int) = 0 then (some (false, ([] : List Bool), 35, wrap64 ((t262.length : Int) + 1))) else ((depotref03_told.f k t265).bind fun t268 => (if t268 = true then (if 1 < (t265.length : Int) then (if ((rd_T84 t265 1).f0).toList = ([85, 78, 83, 65, 84, 73, 83, 70, 73, 65, 66, 76, 69] : List UInt8) then (if (t265.length : Int) > 2 then (if 2 < (t265.length : Int) then (some (false, ([] : List Bool), 35, (rd_T84 t265 2).f1)) else (none)) else (some (false, ([] : List Bool), 0, 0))) else (depotref03_ReadAnswer.l0 k t262 t265 ([] : List Bool) false 2)) else (none)) else (if 0 < (t265.length : Int) then (some (false, ([] : List Bool), 35, (rd_T84 t265 0).f1)) else (none))))))
set_option maxHeartbeats 8000000 in
set_option maxRecDepth 100000 in
theorem depotref03_ReadAnswer.calls (k : Nat) (a0 : ByteArray) (r1 : Bool) (r2 : List Bool) (r3 : Int) (r4 : Int) (w : World) (hE : Env w) (h : depotref03_ReadAnswer.f k a0 = some (r1, r2, r3, r4)) :
  Calls Tryz.prog 33 #[.string a0] w fun e w' => ∃ v1_ : Value, e = .returned (.tuple #[.bool r1, v1_, .int .i64 r3, .int .i64 r4]) ∧ Kd.R Kd.bool 4 w' w.heap.size (fun _ => True) v1_ r2 ∧ Below w.heap.size w w' := by
 have HB := Aside0.mk (Below.refl w.heap.size w)
 have HE := Aside0.mk hE
 clear hE
 have H : ((depotref03_Lines.f k a0).bind fun t262 => ((depotref03_Spoken.f k t262).bind fun t265 => (if (t265.length : Int) = 0 then (some (false, ([] : List Bool), 35, wrap64 ((t262.length : Int) + 1))) else ((depotref03_told.f k t265).bind fun t268 => (if t268 = true then (if 1 < (t265.length : Int) then (if ((rd_T84 t265 1).f0).toList = ([85, 78, 83, 65, 84, 73, 83, 70, 73, 65, 66, 76, 69] : List UInt8) then (if (t265.length : Int) > 2 then (if 2 < (t265.length : Int) then (some (false, ([] : List Bool), 35, (rd_T84 t265 2).f1)) else (none)) else (some (false, ([] : List Bool), 0, 0))) else (depotref03_ReadAnswer.l0 k t262 t265 ([] : List Bool) false 2)) else (none)) else (if 0 < (t265.length : Int) then (some (false, ([] : List Bool), 35, (rd_T84 t265 0).f1)) else (none))))))) = some (r1, r2, r3, r4) := h
 clear h
 replace H := Option.bind_eq_some_iff.mp H
 obtain ⟨t262, A20, H⟩ := H
 replace H : ((depotref03_Spoken.f k t262).bind fun t265 => (if (t265.length : Int) = 0 then (some (false, ([] : List Bool), 35, wrap64 ((t262.length : Int) + 1))) else ((depotref03_told.f k t265).bind fun t268 => (if t268 = true then (if 1 < (t265.length : Int) then (if ((rd_T84 t265 1).f0).toList = ([85, 78, 83, 65, 84, 73, 83, 70, 73, 65, 66, 76, 69] : List UInt8) then (if (t265.length : Int) > 2 then (if 2 < (t265.length : Int) then (some (false, ([] : List Bool), 35, (rd_T84 t265 2).f1)) else (none)) else (some (false, ([] : List Bool), 0, 0))) else (depotref03_ReadAnswer.l0 k t262 t265 ([] : List Bool) false 2)) else (none)) else (if 0 < (t265.length : Int) then (some (false, ([] : List Bool), 35, (rd_T84 t265 0).f1)) else (none)))))) = some (r1, r2, r3, r4) := H
 have A2 := Aside0.mk A20
 clear A20
 replace H := Option.bind_eq_some_iff.mp H
 obtain ⟨t265, A30, H⟩ := H
 replace H : (if (t265.length : Int) = 0 then (some (false, ([] : List Bool), 35, wrap64 ((t262.length : Int) + 1))) else ((depotref03_told.f k t265).bind fun t268 => (if t268 = true then (if 1 < (t265.length : Int) then (if ((rd_T84 t265 1).f0).toList = ([85, 78, 83, 65, 84, 73, 83, 70, 73, 65, 66, 76, 69] : List UInt8) then (if (t265.length : Int) > 2 then (if 2 < (t265.length : Int) then (some (false, ([] : List Bool), 35, (rd_T84 t265 2).f1)) else (none)) else (some (false, ([] : List Bool), 0, 0))) else (depotref03_ReadAnswer.l0 k t262 t265 ([] : List Bool) false 2)) else (none)) else (if 0 < (t265.length : Int) then (some (false, ([] : List Bool), 35, (rd_T84 t265 0).f1)) else (none))))) = some (r1, r2, r3, r4) := H
 have A3 := Aside0.mk A30
 clear A30
 by_cases c4 : (t265.length : Int) = 0
 ·rw [if_pos c4] at H
  have c4b0 : ((t265.length : Int) == 0) = true := beq_iff_eq.mpr c4
  have c4b1 : ((t265.length : Int) != 0) = false := bne_eq_false_iff_eq.mpr c4
  clear c4
  simp only [Option.some.injEq, Prod.mk.injEq] at H
  obtain ⟨rfl, rfl, rfl, rfl⟩ := H
  go_enter Tryz.func33, Tryz.ntmps33
  go_wp2_with (first | (go_at_call 46; (with_reducible refine (depotref03_Lines.calls k a0 t262 _ A2.out).mono ?_); rintro e w5 ⟨v263, rfl, ho0, hb⟩; have n0_ := Aside0.mk (Kd.R_lower ho0 (below_size (by repeat ((with_reducible exact HB.out))))); have n1_ := Aside0.mk (below_step (by repeat ((with_reducible exact HB.out))) hb); clear HB; have HO264 := n0_; have HB := n1_; clear n0_ n1_; (try clear hb); (try clear hb2); (try clear hk); (try clear hi); (try clear ho0); obtain ⟨Ao6, co6, eo6⟩ := Kd.R_slice HO264.out; subst eo6) | (go_at_call 47; (with_reducible refine (depotref03_Spoken.calls k _ _ t262 t265 _ ?side1 ?side2 A3.out).mono ?_); (case side1 => repeat (exact (Kd.R_reads' HO264.out).2.2)); (case side2 => exact (Kd.R_reads' HO264.out).2.1); rintro e w7 ⟨v266, rfl, ho0, hb⟩; have n0_ := Aside0.mk (Kd.R_below (by (with_reducible repeat (fail)); exact HO264.out) hb); have n1_ := Aside0.mk (Kd.R_lower ho0 (below_size (by repeat ((with_reducible exact HB.out))))); have n2_ := Aside0.mk (below_step (by repeat ((with_reducible exact HB.out))) hb); clear HO264; clear HB; have HO264 := n0_; have HO267 := n1_; have HB := n2_; clear n0_ n1_ n2_; (try clear hb); (try clear hb2); (try clear hk); (try clear hi); (try clear ho0); obtain ⟨Ao8, co8, eo8⟩ := Kd.R_slice HO267.out; subst eo8))
  refine bodyPost_ret (results_list (rs := [.tmp 2, .tmp 3, .tmp 4, .tmp 5]) rfl (by simp) (.tmp (.tmp (.tmp (.tmp .nil))))) rfl ?_
  exact ⟨_, by rfl, by exact Kd.R_nil _ _ _ _ _, by repeat ((with_reducible exact HB.out))⟩
 ·rw [if_neg c4] at H
  have c4b0 : ((t265.length : Int) == 0) = false := beq_eq_false_iff_ne.mpr c4
  have c4b1 : ((t265.length : Int) != 0) = true := bne_iff_ne.mpr c4
  have c4b2 : ¬ (t265 = []) := fun h_ => c4 (by rw [h_]; rfl)
  replace H := Option.bind_eq_some_iff.mp H
  obtain ⟨t268, A90, H⟩ := H
  replace H : (if t268 = true then (if 1 < (t265.length : Int) then (if ((rd_T84 t265 1).f0).toList = ([85, 78, 83, 65, 84, 73, 83, 70, 73, 65, 66, 76, 69] : List UInt8) then (if (t265.length : Int) > 2 then (if 2 < (t265.length : Int) then (some (false, ([] : List Bool), 35, (rd_T84 t265 2).f1)) else (none)) else (some (false, ([] : List Bool), 0, 0))) else (depotref03_ReadAnswer.l0 k t262 t265 ([] : List Bool) false 2)) else (none)) else (if 0 < (t265.length : Int) then (some (false, ([] : List Bool), 35, (rd_T84 t265 0).f1)) else (none))) = some (r1, r2, r3, r4) := H
  have A9 := Aside0.mk A90
  clear A90
  by_cases c10 : t268 = true
  ·subst c10
   have H1 : (if 1 < (t265.length : Int) then (if ((rd_T84 t265 1).f0).toList = ([85, 78, 83, 65, 84, 73, 83, 70, 73, 65, 66, 76, 69] : List UInt8) then (if (t265.length : Int) > 2 then (if 2 < (t265.length : Int) then (some (false, ([] : List Bool), 35, (rd_T84 t265 2).f1)) else (none)) else (some (false, ([] : List Bool), 0, 0))) else (depotref03_ReadAnswer.l0 k t262 t265 ([] : List Bool) false 2)) else (none)) = some (r1, r2, r3, r4) := by rw [if_pos rfl] at H; exact H
   clear H
   have H := H1
   clear H1
   by_cases c11 : 1 < (t265.length : Int)
   ·rw [if_pos c11] at H
    have c11b0 : decide (1 < (t265.length : Int)) = true := decide_eq_true c11
    have c11b1 : decide (1 < t265.length) = true := decide_eq_true (by omega)
    clear c11
    by_cases c12 : ((rd_T84 t265 1).f0).toList = ([85, 78, 83, 65, 84, 73, 83, 70, 73, 65, 66, 76, 69] : List UInt8)
    ·rw [if_pos c12] at H
     have c12b0 : (((rd_T84 t265 1).f0).toList == ([85, 78, 83, 65, 84, 73, 83, 70, 73, 65, 66, 76, 69] : List UInt8)) = true := beq_iff_eq.mpr c12
     have c12b1 : (((rd_T84 t265 1).f0).toList != ([85, 78, 83, 65, 84, 73, 83, 70, 73, 65, 66, 76, 69] : List UInt8)) = false := bne_eq_false_iff_eq.mpr c12
     clear c12
     by_cases c13 : (t265.length : Int) > 2
     ·rw [if_pos c13] at H
      have c13b0 : decide (2 < (t265.length : Int)) = true := decide_eq_true c13
      have c13b1 : decide (2 < t265.length) = true := decide_eq_true (by omega)
      clear c13
      by_cases c14 : 2 < (t265.length : Int)
      ·rw [if_pos c14] at H
       have c14b0 : decide (2 < (t265.length : Int)) = true := decide_eq_true c14
       have c14b1 : decide (2 < t265.length) = true := decide_eq_true (by omega)
       clear c14
       simp only [Option.some.injEq, Prod.mk.injEq] at H
       obtain ⟨rfl, rfl, rfl, rfl⟩ := H
       go_enter Tryz.func33, Tryz.ntmps33
       go_wp2_with (first | (go_at_call 46; (with_reducible refine (depotref03_Lines.calls k a0 t262 _ A2.out).mono ?_); rintro e w15 ⟨v263, rfl, ho0, hb⟩; have n0_ := Aside0.mk (Kd.R_lower ho0 (below_size (by repeat ((with_reducible exact HB.out))))); have n1_ := Aside0.mk (below_step (by repeat ((with_reducible exact HB.out))) hb); clear HB; have HO264 := n0_; have HB := n1_; clear n0_ n1_; (try clear hb); (try clear hb2); (try clear hk); (try clear hi); (try clear ho0); obtain ⟨Ao16, co16, eo16⟩ := Kd.R_slice HO264.out; subst eo16) | (go_at_call 47; (with_reducible refine (depotref03_Spoken.calls k _ _ t262 t265 _ ?side1 ?side2 A3.out).mono ?_); (case side1 => repeat (exact (Kd.R_reads' HO264.out).2.2)); (case side2 => exact (Kd.R_reads' HO264.out).2.1); rintro e w17 ⟨v266, rfl, ho0, hb⟩; have n0_ := Aside0.mk (Kd.R_below (by (with_reducible repeat (fail)); exact HO264.out) hb); have n1_ := Aside0.mk (Kd.R_lower ho0 (below_size (by repeat ((with_reducible exact HB.out))))); have n2_ := Aside0.mk (below_step (by repeat ((with_reducible exact HB.out))) hb); clear HO264; clear HB; have HO264 := n0_; have HO267 := n1_; have HB := n2_; clear n0_ n1_ n2_; (try clear hb); (try clear hb2); (try clear hk); (try clear hi); (try clear ho0); obtain ⟨Ao18, co18, eo18⟩ := Kd.R_slice HO267.out; subst eo18) | (go_at_call 54; (with_reducible refine (depotref03_told.calls k _ _ t265 true _ ?side1 ?side2 A9.out).mono ?_); (case side1 => repeat (exact (Kd.R_reads' HO267.out).2.2)); (case side2 => exact (Kd.R_reads' HO267.out).2.1); rintro e w' ⟨rfl, ⟨nd, rfl⟩⟩; (try fail); have p270 : 0 ≤ (1 : Int) := (by omega); have q270 : 1 < (t265.length : Int) := of_decide_eq_true (by (with_reducible assumption)); obtain ⟨ad270, e270, hx270_0, hx270_1⟩ := at_T84 (Kd.R_reads' HO267.out).2.2 1 p270 q270; cases e270; (try simp only [show (1 : Int).toNat = 1 from rfl, Nat.reduceMul, Nat.reduceEqDiff, Go.Addr.add, ↓reduceIte] at hx270_0); (try simp only [show (1 : Int).toNat = 1 from rfl, Nat.reduceMul, Nat.reduceEqDiff, Go.Addr.add, ↓reduceIte] at hx270_1); have qi270 : (1 < t265.length) = True := eq_true (by omega); (try rw [show ((1 : Int)).toNat = 1 from rfl] at hx270_0); (try rw [show 1 * 2 = 2 from rfl] at hx270_0); (try rw [show ((1 : Int)).toNat = 1 from rfl] at hx270_1); (try rw [show 1 * 2 = 2 from rfl] at hx270_1); replace p270 := eq_true p270; replace q270 := eq_true q270; have p271 : 0 ≤ (2 : Int) := (by omega); have q271 : 2 < (t265.length : Int) := of_decide_eq_true (by (with_reducible assumption)); obtain ⟨ad271, e271, hx271_0, hx271_1⟩ := at_T84 (Kd.R_reads' HO267.out).2.2 2 p271 q271; obtain rfl : ad270 = ad271 := (by injection e271); (try simp only [show (2 : Int).toNat = 2 from rfl, Nat.reduceMul, Nat.reduceEqDiff, Go.Addr.add, ↓reduceIte] at hx271_0); (try simp only [show (2 : Int).toNat = 2 from rfl, Nat.reduceMul, Nat.reduceEqDiff, Go.Addr.add, ↓reduceIte] at hx271_1); have qi271 : (2 < t265.length) = True := eq_true (by omega); (try rw [show ((2 : Int)).toNat = 2 from rfl] at hx271_0); (try rw [show 2 * 2 = 4 from rfl] at hx271_0); (try rw [show ((2 : Int)).toNat = 2 from rfl] at hx271_1); (try rw [show 2 * 2 = 4 from rfl] at hx271_1); replace p271 := eq_true p271; replace q271 := eq_true q271))
       repeat (go_quiet (fail); try go_wp2_with (fail))
       refine bodyPost_ret (results_list (rs := [.tmp 2, .tmp 3, .tmp 4, .tmp 5]) rfl (by simp) (.tmp (.tmp (.tmp (.tmp .nil))))) rfl ?_
       exact ⟨_, by rfl, by exact Kd.R_nil _ _ _ _ _, by repeat ((with_reducible first | exact HB.out | apply pw_below_drewN))⟩
      ·rw [if_neg c14] at H
       exact absurd H (by simp)
     ·rw [if_neg c13] at H
      have c13b0 : decide (2 < (t265.length : Int)) = false := decide_eq_false c13
      have c13b1 : decide (2 < t265.length) = false := decide_eq_false (by omega)
      clear c13
      simp only [Option.some.injEq, Prod.mk.injEq] at H
      obtain ⟨rfl, rfl, rfl, rfl⟩ := H
      go_enter Tryz.func33, Tryz.ntmps33
      go_wp2_with (first | (go_at_call 46; (with_reducible refine (depotref03_Lines.calls k a0 t262 _ A2.out).mono ?_); rintro e w19 ⟨v263, rfl, ho0, hb⟩; have n0_ := Aside0.mk (Kd.R_lower ho0 (below_size (by repeat ((with_reducible exact HB.out))))); have n1_ := Aside0.mk (below_step (by repeat ((with_reducible exact HB.out))) hb); clear HB; have HO264 := n0_; have HB := n1_; clear n0_ n1_; (try clear hb); (try clear hb2); (try clear hk); (try clear hi); (try clear ho0); obtain ⟨Ao20, co20, eo20⟩ := Kd.R_slice HO264.out; subst eo20) | (go_at_call 47; (with_reducible refine (depotref03_Spoken.calls k _ _ t262 t265 _ ?side1 ?side2 A3.out).mono ?_); (case side1 => repeat (exact (Kd.R_reads' HO264.out).2.2)); (case side2 => exact (Kd.R_reads' HO264.out).2.1); rintro e w21 ⟨v266, rfl, ho0, hb⟩; have n0_ := Aside0.mk (Kd.R_below (by (with_reducible repeat (fail)); exact HO264.out) hb); have n1_ := Aside0.mk (Kd.R_lower ho0 (below_size (by repeat ((with_reducible exact HB.out))))); have n2_ := Aside0.mk (below_step (by repeat ((with_reducible exact HB.out))) hb); clear HO264; clear HB; have HO264 := n0_; have HO267 := n1_; have HB := n2_; clear n0_ n1_ n2_; (try clear hb); (try clear hb2); (try clear hk); (try clear hi); (try clear ho0); obtain ⟨Ao22, co22, eo22⟩ := Kd.R_slice HO267.out; subst eo22) | (go_at_call 54; (with_reducible refine (depotref03_told.calls k _ _ t265 true _ ?side1 ?side2 A9.out).mono ?_); (case side1 => repeat (exact (Kd.R_reads' HO267.out).2.2)); (case side2 => exact (Kd.R_reads' HO267.out).2.1); rintro e w' ⟨rfl, ⟨nd, rfl⟩⟩; (try fail); have p270 : 0 ≤ (1 : Int) := (by omega); have q270 : 1 < (t265.length : Int) := of_decide_eq_true (by (with_reducible assumption)); obtain ⟨ad270, e270, hx270_0, hx270_1⟩ := at_T84 (Kd.R_reads' HO267.out).2.2 1 p270 q270; cases e270; (try simp only [show (1 : Int).toNat = 1 from rfl, Nat.reduceMul, Nat.reduceEqDiff, Go.Addr.add, ↓reduceIte] at hx270_0); (try simp only [show (1 : Int).toNat = 1 from rfl, Nat.reduceMul, Nat.reduceEqDiff, Go.Addr.add, ↓reduceIte] at hx270_1); have qi270 : (1 < t265.length) = True := eq_true (by omega); (try rw [show ((1 : Int)).toNat = 1 from rfl] at hx270_0); (try rw [show 1 * 2 = 2 from rfl] at hx270_0); (try rw [show ((1 : Int)).toNat = 1 from rfl] at hx270_1); (try rw [show 1 * 2 = 2 from rfl] at hx270_1); replace p270 := eq_true p270; replace q270 := eq_true q270))
      refine bodyPost_ret (results_list (rs := [.tmp 2, .tmp 3, .tmp 4, .tmp 5]) rfl (by simp) (.tmp (.tmp (.tmp (.tmp .nil))))) rfl ?_
      exact ⟨_, by rfl, by exact Kd.R_nil _ _ _ _ _, by repeat ((with_reducible first | exact HB.out | apply pw_below_drewN))⟩
    ·rw [if_neg c12] at H
     have c12b0 : (((rd_T84 t265 1).f0).toList == ([85, 78, 83, 65, 84, 73, 83, 70, 73, 65, 66, 76, 69] : List UInt8)) = false := beq_eq_false_iff_ne.mpr c12
     have c12b1 : (((rd_T84 t265 1).f0).toList != ([85, 78, 83, 65, 84, 73, 83, 70, 73, 65, 66, 76, 69] : List UInt8)) = true := bne_iff_ne.mpr c12
     have H' := Aside0.mk H
     clear H
     go_enter Tryz.func33, Tryz.ntmps33
     go_wp2_with (first | (go_at_call 46; (with_reducible refine (depotref03_Lines.calls k a0 t262 _ A2.out).mono ?_); rintro e w23 ⟨v263, rfl, ho0, hb⟩; have n0_ := Aside0.mk (Kd.R_lower ho0 (below_size (by repeat ((with_reducible exact HB.out))))); have n1_ := Aside0.mk (below_step (by repeat ((with_reducible exact HB.out))) hb); clear HB; have HO264 := n0_; have HB := n1_; clear n0_ n1_; (try clear hb); (try clear hb2); (try clear hk); (try clear hi); (try clear ho0); obtain ⟨Ao24, co24, eo24⟩ := Kd.R_slice HO264.out; subst eo24) | (go_at_call 47; (with_reducible refine (depotref03_Spoken.calls k _ _ t262 t265 _ ?side1 ?side2 A3.out).mono ?_); (case side1 => repeat (exact (Kd.R_reads' HO264.out).2.2)); (case side2 => exact (Kd.R_reads' HO264.out).2.1); rintro e w25 ⟨v266, rfl, ho0, hb⟩; have n0_ := Aside0.mk (Kd.R_below (by (with_reducible repeat (fail)); exact HO264.out) hb); have n1_ := Aside0.mk (Kd.R_lower ho0 (below_size (by repeat ((with_reducible exact HB.out))))); have n2_ := Aside0.mk (below_step (by repeat ((with_reducible exact HB.out))) hb); clear HO264; clear HB; have HO264 := n0_; have HO267 := n1_; have HB := n2_; clear n0_ n1_ n2_; (try clear hb); (try clear hb2); (try clear hk); (try clear hi); (try clear ho0); obtain ⟨Ao26, co26, eo26⟩ := Kd.R_slice HO267.out; subst eo26) | (go_at_call 54; (with_reducible refine (depotref03_told.calls k _ _ t265 true _ ?side1 ?side2 A9.out).mono ?_); (case side1 => repeat (exact (Kd.R_reads' HO267.out).2.2)); (case side2 => exact (Kd.R_reads' HO267.out).2.1); rintro e w' ⟨rfl, ⟨nd, rfl⟩⟩; (try fail); have p270 : 0 ≤ (1 : Int) := (by omega); have q270 : 1 < (t265.length : Int) := of_decide_eq_true (by (with_reducible assumption)); obtain ⟨ad270, e270, hx270_0, hx270_1⟩ := at_T84 (Kd.R_reads' HO267.out).2.2 1 p270 q270; cases e270; (try simp only [show (1 : Int).toNat = 1 from rfl, Nat.reduceMul, Nat.reduceEqDiff, Go.Addr.add, ↓reduceIte] at hx270_0); (try simp only [show (1 : Int).toNat = 1 from rfl, Nat.reduceMul, Nat.reduceEqDiff, Go.Addr.add, ↓reduceIte] at hx270_1); have qi270 : (1 < t265.length) = True := eq_true (by omega); (try rw [show ((1 : Int)).toNat = 1 from rfl] at hx270_0); (try rw [show 1 * 2 = 2 from rfl] at hx270_0); (try rw [show ((1 : Int)).toNat = 1 from rfl] at hx270_1); (try rw [show 1 * 2 = 2 from rfl] at hx270_1); replace p270 := eq_true p270; replace q270 := eq_true q270))
     go_loopg [8, 9, 10] k (fun kq v8 v9 v10 w' => ∃ (x8_1 : List Bool) (x9_1 : Bool) (x10_1 : Int), v9 = .bool x9_1 ∧ v10 = .int .i64 x10_1 ∧ Aside0 (depotref03_ReadAnswer.l0 kq t262 t265 x8_1 x9_1 x10_1 = some (r1, r2, r3, r4)) ∧ Aside0 (kq ≤ k) ∧ Aside0 (Kd.R Kd.string 9 w' w.heap.size (fun _ => True) (.slice Ao24 t262.length co24) t262) ∧ Aside0 (Kd.R k84 84 w' w.heap.size (fun _ => True) (.slice (some ad270) t265.length co26) t265) ∧ Aside0 (Kd.R Kd.bool 4 w' w.heap.size (fun _ => True) v8 x8_1) ∧ Aside0 (Below w.heap.size w w'))
     case atStart => exact ⟨(([] : List Bool)), (false), (2), (by rfl), (by rfl), H', ⟨Nat.le_refl _⟩, ⟨by (with_reducible repeat (apply Kd.R_drewN)); exact HO264.out⟩, ⟨by (with_reducible repeat (apply Kd.R_drewN)); exact HO267.out⟩, ⟨by exact Kd.R_nil _ _ _ _ _⟩, ⟨by repeat ((with_reducible first | exact HB.out | apply pw_below_drewN))⟩⟩
     case round =>
      clear H'
      try clear c1
      try clear p2
      try clear q2
      try clear hx2
      try clear qi2
      try clear c3
      try clear c4
      try clear c4b0
      try clear c4b1
      try clear c4b2
      try clear p6
      try clear c10
      try clear c11
      try clear c11b0
      try clear c11b1
      try clear c12
      try clear c12b0
      try clear c12b1
      try clear c13
      try clear c13b0
      try clear c13b1
      try clear c14
      try clear c14b0
      try clear c14b1
      try clear hx270_0
      try clear hx270_1
      try clear hx271_0
      try clear hx271_1
      try clear p270
      try clear p271
      try clear q270
      try clear q271
      obtain ⟨x8_1, x9_1, x10_1, rfl, rfl, HA, HK1, HO_6, HO_7, HO_8, HB⟩ := hrel
      cases gk with
      | zero => exact absurd HA.out (by simp [depotref03_ReadAnswer.l0])
      | succ k1 =>
       have H := HA.out
       clear HA
       simp only [depotref03_ReadAnswer.l0] at H
       by_cases c27 : x10_1 < (t265.length : Int)
       ·rw [if_pos c27] at H
        have c27b0 : decide (x10_1 < (t265.length : Int)) = true := decide_eq_true c27
        clear c27
        by_cases c28 : 0 ≤ x10_1
        ·rw [if_pos c28] at H
         have c28b0 : decide (0 ≤ x10_1) = true := decide_eq_true c28
         clear c28
         obtain ⟨ji29, hji29⟩ : ∃ j_ : Int, (wrap64 (x10_1 - 1)) = j_ := ⟨_, rfl⟩
         replace H : (if 0 ≤ (ji29) then (if (ji29) < (t265.length : Int) then (if ((rd_T84 t265 x10_1).f1) = ((rd_T84 t265 (ji29)).f1) then (if x9_1 = true then (some (false, ([] : List Bool), 35, (rd_T84 t265 x10_1).f1)) else ((depotref03_Tens.f k1 ((rd_T84 t265 x10_1).f0)).bind fun t278 => (if t278 = true then ((depotref03_Value.f ((rd_T84 t265 x10_1).f0)).bind fun t281 => (if t281 = 0 then (depotref03_ReadAnswer.l0 k1 t262 t265 x8_1 true (wrap64 (x10_1 + 1))) else (if (wrap64 ((x8_1.length : Int) + 1)) ≤ 1048576 then (if t281 = (wrap64 ((x8_1.length : Int) + 1)) then (if x8_1.length < 140737488355328 then (depotref03_ReadAnswer.l0 k1 t262 t265 (x8_1 ++ [(t281 == (wrap64 ((x8_1.length : Int) + 1)))]) x9_1 (wrap64 (x10_1 + 1))) else (none)) else (if t281 = (wrap64 (-(wrap64 ((x8_1.length : Int) + 1)))) then (if x8_1.length < 140737488355328 then (depotref03_ReadAnswer.l0 k1 t262 t265 (x8_1 ++ [(t281 == (wrap64 ((x8_1.length : Int) + 1)))]) x9_1 (wrap64 (x10_1 + 1))) else (none)) else (some (false, ([] : List Bool), 32, (rd_T84 t265 x10_1).f1)))) else (some (false, ([] : List Bool), 32, (rd_T84 t265 x10_1).f1))))) else (some (false, ([] : List Bool), 31, (rd_T84 t265 x10_1).f1))))) else (if ((rd_T84 t265 x10_1).f0).toList = ([118] : List UInt8) then (depotref03_ReadAnswer.l0 k1 t262 t265 x8_1 x9_1 (wrap64 (x10_1 + 1))) else (some (false, ([] : List Bool), 35, (rd_T84 t265 x10_1).f1)))) else (none)) else (none)) = some (r1, r2, r3, r4) := by ((rw [hji29] at H; exact H))
         have hji29w : (IntKind.i64.wrap (x10_1 - 1)) = ji29 := (i64_w _).trans hji29
         by_cases c30 : 0 ≤ (ji29)
         ·rw [if_pos c30] at H
          have c30b0 : decide (0 ≤ (ji29)) = true := decide_eq_true c30
          clear c30
          by_cases c31 : (ji29) < (t265.length : Int)
          ·rw [if_pos c31] at H
           have c31b0 : decide ((ji29) < (t265.length : Int)) = true := decide_eq_true c31
           clear c31
           by_cases c32 : ((rd_T84 t265 x10_1).f1) = ((rd_T84 t265 (ji29)).f1)
           ·rw [if_pos c32] at H
            have c32b0 : (((rd_T84 t265 x10_1).f1) == ((rd_T84 t265 (ji29)).f1)) = true := beq_iff_eq.mpr c32
            have c32b1 : (((rd_T84 t265 x10_1).f1) != ((rd_T84 t265 (ji29)).f1)) = false := bne_eq_false_iff_eq.mpr c32
            clear c32
            by_cases c33 : x9_1 = true
            ·subst c33
             have H1 : (some (false, ([] : List Bool), 35, (rd_T84 t265 x10_1).f1)) = some (r1, r2, r3, r4) := by rw [if_pos rfl] at H; exact H
             clear H
             have H := H1
             clear H1
             simp only [Option.some.injEq, Prod.mk.injEq] at H
             obtain ⟨rfl, rfl, rfl, rfl⟩ := H
             have p272 : 0 ≤ (x10_1 : Int) := of_decide_eq_true (by (with_reducible assumption))
             have q272 : x10_1 < (t265.length : Int) := of_decide_eq_true (by (with_reducible assumption))
             obtain ⟨ad272, e272, hx272_0, hx272_1⟩ := at_T84 (Kd.R_reads' HO_7.out).2.2 x10_1 p272 q272
             obtain rfl : ad270 = ad272 := (by injection e272)
             replace p272 := eq_true p272
             replace q272 := eq_true q272
             have p273 : 0 ≤ ((ji29) : Int) := of_decide_eq_true (by (with_reducible assumption))
             have q273 : (ji29) < (t265.length : Int) := of_decide_eq_true (by (with_reducible assumption))
             obtain ⟨ad273, e273, hx273_0, hx273_1⟩ := at_T84 (Kd.R_reads' HO_7.out).2.2 (ji29) p273 q273
             obtain rfl : ad270 = ad273 := (by injection e273)
             replace p273 := eq_true p273
             replace q273 := eq_true q273
             have p276 : 0 ≤ (x10_1 : Int) := of_decide_eq_true (by (with_reducible assumption))
             have q276 : x10_1 < (t265.length : Int) := of_decide_eq_true (by (with_reducible assumption))
             obtain ⟨ad276, e276, hx276_0, hx276_1⟩ := at_T84 (Kd.R_reads' HO_7.out).2.2 x10_1 p276 q276
             obtain rfl : ad270 = ad276 := (by injection e276)
             replace p276 := eq_true p276
             replace q276 := eq_true q276
             go_wp2
             repeat (go_quiet (fail); try go_wp2)
             refine bodyPost_ret (results_list (rs := [.tmp 2, .tmp 3, .tmp 4, .tmp 5]) rfl (by simp) (.tmp (.tmp (.tmp (.tmp .nil))))) rfl ?_
             exact ⟨_, by rfl, by exact Kd.R_nil _ _ _ _ _, by repeat ((with_reducible first | exact HB.out | apply pw_below_drewN))⟩
            ·replace c33 := Bool.eq_false_iff.mpr c33
             subst c33
             have H1 : ((depotref03_Tens.f k1 ((rd_T84 t265 x10_1).f0)).bind fun t278 => (if t278 = true then ((depotref03_Value.f ((rd_T84 t265 x10_1).f0)).bind fun t281 => (if t281 = 0 then (depotref03_ReadAnswer.l0 k1 t262 t265 x8_1 true (wrap64 (x10_1 + 1))) else (if (wrap64 ((x8_1.length : Int) + 1)) ≤ 1048576 then (if t281 = (wrap64 ((x8_1.length : Int) + 1)) then (if x8_1.length < 140737488355328 then (depotref03_ReadAnswer.l0 k1 t262 t265 (x8_1 ++ [(t281 == (wrap64 ((x8_1.length : Int) + 1)))]) false (wrap64 (x10_1 + 1))) else (none)) else (if t281 = (wrap64 (-(wrap64 ((x8_1.length : Int) + 1)))) then (if x8_1.length < 140737488355328 then (depotref03_ReadAnswer.l0 k1 t262 t265 (x8_1 ++ [(t281 == (wrap64 ((x8_1.length : Int) + 1)))]) false (wrap64 (x10_1 + 1))) else (none)) else (some (false, ([] : List Bool), 32, (rd_T84 t265 x10_1).f1)))) else (some (false, ([] : List Bool), 32, (rd_T84 t265 x10_1).f1))))) else (some (false, ([] : List Bool), 31, (rd_T84 t265 x10_1).f1)))) = some (r1, r2, r3, r4) := by rw [if_neg (show ¬ (false = true) by decide)] at H; exact H
             clear H
             have H := H1
             clear H1
             replace H := Option.bind_eq_some_iff.mp H
             obtain ⟨t278, A340, H⟩ := H
             replace H : (if t278 = true then ((depotref03_Value.f ((rd_T84 t265 x10_1).f0)).bind fun t281 => (if t281 = 0 then (depotref03_ReadAnswer.l0 k1 t262 t265 x8_1 true (wrap64 (x10_1 + 1))) else (if (wrap64 ((x8_1.length : Int) + 1)) ≤ 1048576 then (if t281 = (wrap64 ((x8_1.length : Int) + 1)) then (if x8_1.length < 140737488355328 then (depotref03_ReadAnswer.l0 k1 t262 t265 (x8_1 ++ [(t281 == (wrap64 ((x8_1.length : Int) + 1)))]) false (wrap64 (x10_1 + 1))) else (none)) else (if t281 = (wrap64 (-(wrap64 ((x8_1.length : Int) + 1)))) then (if x8_1.length < 140737488355328 then (depotref03_ReadAnswer.l0 k1 t262 t265 (x8_1 ++ [(t281 == (wrap64 ((x8_1.length : Int) + 1)))]) false (wrap64 (x10_1 + 1))) else (none)) else (some (false, ([] : List Bool), 32, (rd_T84 t265 x10_1).f1)))) else (some (false, ([] : List Bool), 32, (rd_T84 t265 x10_1).f1))))) else (some (false, ([] : List Bool), 31, (rd_T84 t265 x10_1).f1))) = some (r1, r2, r3, r4) := H
             have A34 := Aside0.mk A340
             clear A340
             by_cases c35 : t278 = true
             ·subst c35
              have H1 : ((depotref03_Value.f ((rd_T84 t265 x10_1).f0)).bind fun t281 => (if t281 = 0 then (depotref03_ReadAnswer.l0 k1 t262 t265 x8_1 true (wrap64 (x10_1 + 1))) else (if (wrap64 ((x8_1.length : Int) + 1)) ≤ 1048576 then (if t281 = (wrap64 ((x8_1.length : Int) + 1)) then (if x8_1.length < 140737488355328 then (depotref03_ReadAnswer.l0 k1 t262 t265 (x8_1 ++ [(t281 == (wrap64 ((x8_1.length : Int) + 1)))]) false (wrap64 (x10_1 + 1))) else (none)) else (if t281 = (wrap64 (-(wrap64 ((x8_1.length : Int) + 1)))) then (if x8_1.length < 140737488355328 then (depotref03_ReadAnswer.l0 k1 t262 t265 (x8_1 ++ [(t281 == (wrap64 ((x8_1.length : Int) + 1)))]) false (wrap64 (x10_1 + 1))) else (none)) else (some (false, ([] : List Bool), 32, (rd_T84 t265 x10_1).f1)))) else (some (false, ([] : List Bool), 32, (rd_T84 t265 x10_1).f1))))) = some (r1, r2, r3, r4) := by rw [if_pos rfl] at H; exact H
              clear H
              have H := H1
              clear H1
              replace H := Option.bind_eq_some_iff.mp H
              obtain ⟨t281, A360, H⟩ := H
              replace H : (if t281 = 0 then (depotref03_ReadAnswer.l0 k1 t262 t265 x8_1 true (wrap64 (x10_1 + 1))) else (if (wrap64 ((x8_1.length : Int) + 1)) ≤ 1048576 then (if t281 = (wrap64 ((x8_1.length : Int) + 1)) then (if x8_1.length < 140737488355328 then (depotref03_ReadAnswer.l0 k1 t262 t265 (x8_1 ++ [(t281 == (wrap64 ((x8_1.length : Int) + 1)))]) false (wrap64 (x10_1 + 1))) else (none)) else (if t281 = (wrap64 (-(wrap64 ((x8_1.length : Int) + 1)))) then (if x8_1.length < 140737488355328 then (depotref03_ReadAnswer.l0 k1 t262 t265 (x8_1 ++ [(t281 == (wrap64 ((x8_1.length : Int) + 1)))]) false (wrap64 (x10_1 + 1))) else (none)) else (some (false, ([] : List Bool), 32, (rd_T84 t265 x10_1).f1)))) else (some (false, ([] : List Bool), 32, (rd_T84 t265 x10_1).f1)))) = some (r1, r2, r3, r4) := H
              have A36 := Aside0.mk A360
              clear A360
              by_cases c37 : t281 = 0
              ·rw [if_pos c37] at H
               have c37b0 : (t281 == 0) = true := beq_iff_eq.mpr c37
               have c37b1 : (t281 != 0) = false := bne_eq_false_iff_eq.mpr c37
               clear c37
               have H' := Aside0.mk H
               clear H
               have p272 : 0 ≤ (x10_1 : Int) := of_decide_eq_true (by (with_reducible assumption))
               have q272 : x10_1 < (t265.length : Int) := of_decide_eq_true (by (with_reducible assumption))
               obtain ⟨ad272, e272, hx272_0, hx272_1⟩ := at_T84 (Kd.R_reads' HO_7.out).2.2 x10_1 p272 q272
               obtain rfl : ad270 = ad272 := (by injection e272)
               replace p272 := eq_true p272
               replace q272 := eq_true q272
               have p273 : 0 ≤ ((ji29) : Int) := of_decide_eq_true (by (with_reducible assumption))
               have q273 : (ji29) < (t265.length : Int) := of_decide_eq_true (by (with_reducible assumption))
               obtain ⟨ad273, e273, hx273_0, hx273_1⟩ := at_T84 (Kd.R_reads' HO_7.out).2.2 (ji29) p273 q273
               obtain rfl : ad270 = ad273 := (by injection e273)
               replace p273 := eq_true p273
               replace q273 := eq_true q273
               have p277 : 0 ≤ (x10_1 : Int) := of_decide_eq_true (by (with_reducible assumption))
               have q277 : x10_1 < (t265.length : Int) := of_decide_eq_true (by (with_reducible assumption))
               obtain ⟨ad277, e277, hx277_0, hx277_1⟩ := at_T84 (Kd.R_reads' HO_7.out).2.2 x10_1 p277 q277
               obtain rfl : ad270 = ad277 := (by injection e277)
               replace p277 := eq_true p277
               replace q277 := eq_true q277
               go_wp2_with (fail)
               repeat (go_quiet (fail); try go_wp2_with (first | (go_at_call 50; (with_reducible refine (depotref03_Tens.calls k1 ((rd_T84 t265 x10_1).f0) true _ A34.out).mono ?_); rintro e w' ⟨rfl, ⟨nd, rfl⟩⟩; (try fail); have p280 : 0 ≤ (x10_1 : Int) := of_decide_eq_true (by (with_reducible assumption)); have q280 : x10_1 < (t265.length : Int) := of_decide_eq_true (by (with_reducible assumption)); obtain ⟨ad280, e280, hx280_0, hx280_1⟩ := at_T84 (Kd.R_reads' HO_7.out).2.2 x10_1 p280 q280; obtain rfl : ad270 = ad280 := (by injection e280); replace p280 := eq_true p280; replace q280 := eq_true q280) | (go_at_call 49; (with_reducible refine (depotref03_Value.calls ((rd_T84 t265 x10_1).f0) t281 _ ?side1 A36.out).mono ?_); (case side1 => exact Env.below HE.out (by repeat ((with_reducible first | exact HB.out | apply pw_below_drewN)))); rintro e w38 ⟨rfl, hb⟩; have n0_ := Aside0.mk (Kd.R_below (by (with_reducible repeat (apply Kd.R_drewN)); exact HO_6.out) hb); have n1_ := Aside0.mk (Kd.R_below (by (with_reducible repeat (apply Kd.R_drewN)); exact HO_7.out) hb); have n2_ := Aside0.mk (Kd.R_below (by (with_reducible repeat (apply Kd.R_drewN)); exact HO_8.out) hb); have n3_ := Aside0.mk (below_step (by repeat ((with_reducible first | exact HB.out | apply pw_below_drewN))) hb); clear HO_6; clear HO_7; clear HO_8; clear HB; have HO_6 := n0_; have HO_7 := n1_; have HO_8 := n2_; have HB := n3_; clear n0_ n1_ n2_ n3_; (try clear hb); (try clear hb2); (try clear hk); (try clear hi); obtain ⟨Ao39, co39, eo39⟩ := Kd.R_slice HO_8.out; subst eo39)))
               go_roundg k1
               case measure => have := HK1.out; omega
               case rel => exact ⟨(x8_1), (true), (wrap64 (x10_1 + 1)), (by rfl), (by rfl), H', ⟨by have := HK1.out; omega⟩, ⟨by (with_reducible repeat (fail)); exact HO_6.out⟩, ⟨by (with_reducible repeat (fail)); exact HO_7.out⟩, ⟨by (with_reducible repeat (fail)); exact HO_8.out⟩, ⟨by repeat ((with_reducible exact HB.out))⟩⟩
              ·rw [if_neg c37] at H
               have c37b0 : (t281 == 0) = false := beq_eq_false_iff_ne.mpr c37
               have c37b1 : (t281 != 0) = true := bne_iff_ne.mpr c37
               by_cases c40 : (wrap64 ((x8_1.length : Int) + 1)) ≤ 1048576
               ·rw [if_pos c40] at H
                have c40b0 : decide ((wrap64 ((x8_1.length : Int) + 1)) ≤ 1048576) = true := decide_eq_true c40
                clear c40
                by_cases c41 : t281 = (wrap64 ((x8_1.length : Int) + 1))
                ·rw [if_pos c41] at H
                 have c41b0 : (t281 == (wrap64 ((x8_1.length : Int) + 1))) = true := beq_iff_eq.mpr c41
                 have c41b1 : (t281 != (wrap64 ((x8_1.length : Int) + 1))) = false := bne_eq_false_iff_eq.mpr c41
                 clear c41
                 rw [c41b0] at H
                 by_cases c42 : x8_1.length < 140737488355328
                 ·rw [if_pos c42] at H
                  have LMc42 := Aside0.mk c42
                  clear c42
                  obtain ⟨y282, hy282⟩ : ∃ y_ : List Bool, y_ = (x8_1 ++ [true]) := ⟨_, rfl⟩
                  replace H : (depotref03_ReadAnswer.l0 k1 t262 t265 y282 false (wrap64 (x10_1 + 1))) = some (r1, r2, r3, r4) := by ((rw [hy282]; with_reducible exact H))
                  have Ny282 := Aside0.mk hy282
                  clear hy282
                  have H' := Aside0.mk H
                  clear H
                  have p272 : 0 ≤ (x10_1 : Int) := of_decide_eq_true (by (with_reducible assumption))
                  have q272 : x10_1 < (t265.length : Int) := of_decide_eq_true (by (with_reducible assumption))
                  obtain ⟨ad272, e272, hx272_0, hx272_1⟩ := at_T84 (Kd.R_reads' HO_7.out).2.2 x10_1 p272 q272
                  obtain rfl : ad270 = ad272 := (by injection e272)
                  replace p272 := eq_true p272
                  replace q272 := eq_true q272
                  have p273 : 0 ≤ ((ji29) : Int) := of_decide_eq_true (by (with_reducible assumption))
                  have q273 : (ji29) < (t265.length : Int) := of_decide_eq_true (by (with_reducible assumption))
                  obtain ⟨ad273, e273, hx273_0, hx273_1⟩ := at_T84 (Kd.R_reads' HO_7.out).2.2 (ji29) p273 q273
                  obtain rfl : ad270 = ad273 := (by injection e273)
                  replace p273 := eq_true p273
                  replace q273 := eq_true q273
                  have p277 : 0 ≤ (x10_1 : Int) := of_decide_eq_true (by (with_reducible assumption))
                  have q277 : x10_1 < (t265.length : Int) := of_decide_eq_true (by (with_reducible assumption))
                  obtain ⟨ad277, e277, hx277_0, hx277_1⟩ := at_T84 (Kd.R_reads' HO_7.out).2.2 x10_1 p277 q277
                  obtain rfl : ad270 = ad277 := (by injection e277)
                  replace p277 := eq_true p277
                  replace q277 := eq_true q277
                  go_wp2_with (fail)
                  repeat (go_quiet (fail); try go_wp2_with (first | (go_at_call 50; (with_reducible refine (depotref03_Tens.calls k1 ((rd_T84 t265 x10_1).f0) true _ A34.out).mono ?_); rintro e w' ⟨rfl, ⟨nd, rfl⟩⟩; (try fail); have p280 : 0 ≤ (x10_1 : Int) := of_decide_eq_true (by (with_reducible assumption)); have q280 : x10_1 < (t265.length : Int) := of_decide_eq_true (by (with_reducible assumption)); obtain ⟨ad280, e280, hx280_0, hx280_1⟩ := at_T84 (Kd.R_reads' HO_7.out).2.2 x10_1 p280 q280; obtain rfl : ad270 = ad280 := (by injection e280); replace p280 := eq_true p280; replace q280 := eq_true q280) | (go_at_call 49; (with_reducible refine (depotref03_Value.calls ((rd_T84 t265 x10_1).f0) t281 _ ?side1 A36.out).mono ?_); (case side1 => exact Env.below HE.out (by repeat ((with_reducible first | exact HB.out | apply pw_below_drewN)))); rintro e w43 ⟨rfl, hb⟩; have n0_ := Aside0.mk (Kd.R_below (by (with_reducible repeat (apply Kd.R_drewN)); exact HO_6.out) hb); have n1_ := Aside0.mk (Kd.R_below (by (with_reducible repeat (apply Kd.R_drewN)); exact HO_7.out) hb); have n2_ := Aside0.mk (Kd.R_below (by (with_reducible repeat (apply Kd.R_drewN)); exact HO_8.out) hb); have n3_ := Aside0.mk (below_step (by repeat ((with_reducible first | exact HB.out | apply pw_below_drewN))) hb); clear HO_6; clear HO_7; clear HO_8; clear HB; have HO_6 := n0_; have HO_7 := n1_; have HO_8 := n2_; have HB := n3_; clear n0_ n1_ n2_ n3_; (try clear hb); (try clear hb2); (try clear hk); (try clear hi); obtain ⟨Ao44, co44, eo44⟩ := Kd.R_slice HO_8.out; subst eo44) | ((with_reducible refine gate_builtin (b := .append) (xs := #[.tmp 120, .tmp 124]) rfl ?_); at_builtin; refine Kd.R_append Kd.bool (w0 := w) w.heap.size rfl (.tmp 120) (.tmp 124) 25 4 (.bool false) 1 rfl Tryz.underlying25 info4 rfl (by decide) (by omega) (.slice Ao44 x8_1.length co44) x8_1 true [.bool true] (fun _ => True) (fun _ => False) rfl rfl ?aP (fun _ hk => hk.elim) ?aF ?aO ?aB ?aS ?aL ?_; (case aP => exact rfl); (case aB => exact (by repeat ((with_reducible exact HB.out)))); (case aF => exact (fun _ _ => trivial)); (case aO => exact (by (with_reducible repeat (fail)); exact HO_8.out)); (case aS => exact (below_size (by repeat ((with_reducible exact HB.out))))); (case aL => have := LMc42.out; omega); intro v283 w45 ho hb hg hat; rw [← Ny282.out] at ho; have n0_ := Aside0.mk (Kd.R_over' (by (with_reducible repeat (fail)); exact HO_6.out) (Kd.R_typed (by (with_reducible repeat (fail)); exact HO_8.out)) (by decide) hg); have n1_ := Aside0.mk (Kd.R_over' (by (with_reducible repeat (fail)); exact HO_7.out) (Kd.R_typed (by (with_reducible repeat (fail)); exact HO_8.out)) (by decide) hg); have n2_ := Aside0.mk (hb); have n3_ := Aside0.mk (ho); clear HO_6; clear HO_7; clear HB; clear HO_8; have HO_6 := n0_; have HO_7 := n1_; have HB := n2_; have HO284 := n3_; clear n0_ n1_ n2_ n3_; clear ho hb hg hat)))
                  go_roundg k1
                  case measure => have := HK1.out; omega
                  case rel => exact ⟨(y282), (false), (wrap64 (x10_1 + 1)), (by rfl), (by rfl), H', ⟨by have := HK1.out; omega⟩, ⟨by (with_reducible repeat (fail)); exact HO_6.out⟩, ⟨by (with_reducible repeat (fail)); exact HO_7.out⟩, ⟨by (with_reducible repeat (fail)); exact HO284.out⟩, ⟨by repeat ((with_reducible exact HB.out))⟩⟩
                 ·rw [if_neg c42] at H
                  exact absurd H (by simp)
                ·rw [if_neg c41] at H
                 have c41b0 : (t281 == (wrap64 ((x8_1.length : Int) + 1))) = false := beq_eq_false_iff_ne.mpr c41
                 have c41b1 : (t281 != (wrap64 ((x8_1.length : Int) + 1))) = true := bne_iff_ne.mpr c41
                 rw [c41b0] at H
                 by_cases c46 : t281 = (wrap64 (-(wrap64 ((x8_1.length : Int) + 1))))
                 ·rw [if_pos c46] at H
                  have c46b0 : (t281 == (wrap64 (-(wrap64 ((x8_1.length : Int) + 1))))) = true := beq_iff_eq.mpr c46
                  have c46b1 : (t281 != (wrap64 (-(wrap64 ((x8_1.length : Int) + 1))))) = false := bne_eq_false_iff_eq.mpr c46
                  clear c46
                  by_cases c47 : x8_1.length < 140737488355328
                  ·rw [if_pos c47] at H
                   have LMc47 := Aside0.mk c47
                   clear c47
                   obtain ⟨y285, hy285⟩ : ∃ y_ : List Bool, y_ = (x8_1 ++ [false]) := ⟨_, rfl⟩
                   replace H : (depotref03_ReadAnswer.l0 k1 t262 t265 y285 false (wrap64 (x10_1 + 1))) = some (r1, r2, r3, r4) := by ((rw [hy285]; with_reducible exact H))
                   have Ny285 := Aside0.mk hy285
                   clear hy285
                   have H' := Aside0.mk H
                   clear H
                   have p272 : 0 ≤ (x10_1 : Int) := of_decide_eq_true (by (with_reducible assumption))
                   have q272 : x10_1 < (t265.length : Int) := of_decide_eq_true (by (with_reducible assumption))
                   obtain ⟨ad272, e272, hx272_0, hx272_1⟩ := at_T84 (Kd.R_reads' HO_7.out).2.2 x10_1 p272 q272
                   obtain rfl : ad270 = ad272 := (by injection e272)
                   replace p272 := eq_true p272
                   replace q272 := eq_true q272
                   have p273 : 0 ≤ ((ji29) : Int) := of_decide_eq_true (by (with_reducible assumption))
                   have q273 : (ji29) < (t265.length : Int) := of_decide_eq_true (by (with_reducible assumption))
                   obtain ⟨ad273, e273, hx273_0, hx273_1⟩ := at_T84 (Kd.R_reads' HO_7.out).2.2 (ji29) p273 q273
                   obtain rfl : ad270 = ad273 := (by injection e273)
                   replace p273 := eq_true p273
                   replace q273 := eq_true q273
                   have p277 : 0 ≤ (x10_1 : Int) := of_decide_eq_true (by (with_reducible assumption))
                   have q277 : x10_1 < (t265.length : Int) := of_decide_eq_true (by (with_reducible assumption))
                   obtain ⟨ad277, e277, hx277_0, hx277_1⟩ := at_T84 (Kd.R_reads' HO_7.out).2.2 x10_1 p277 q277
                   obtain rfl : ad270 = ad277 := (by injection e277)
                   replace p277 := eq_true p277
                   replace q277 := eq_true q277
                   go_wp2_with (fail)
                   repeat (go_quiet (fail); try go_wp2_with (first | (go_at_call 50; (with_reducible refine (depotref03_Tens.calls k1 ((rd_T84 t265 x10_1).f0) true _ A34.out).mono ?_); rintro e w' ⟨rfl, ⟨nd, rfl⟩⟩; (try fail); have p280 : 0 ≤ (x10_1 : Int) := of_decide_eq_true (by (with_reducible assumption)); have q280 : x10_1 < (t265.length : Int) := of_decide_eq_true (by (with_reducible assumption)); obtain ⟨ad280, e280, hx280_0, hx280_1⟩ := at_T84 (Kd.R_reads' HO_7.out).2.2 x10_1 p280 q280; obtain rfl : ad270 = ad280 := (by injection e280); replace p280 := eq_true p280; replace q280 := eq_true q280) | (go_at_call 49; (with_reducible refine (depotref03_Value.calls ((rd_T84 t265 x10_1).f0) t281 _ ?side1 A36.out).mono ?_); (case side1 => exact Env.below HE.out (by repeat ((with_reducible first | exact HB.out | apply pw_below_drewN)))); rintro e w48 ⟨rfl, hb⟩; have n0_ := Aside0.mk (Kd.R_below (by (with_reducible repeat (apply Kd.R_drewN)); exact HO_6.out) hb); have n1_ := Aside0.mk (Kd.R_below (by (with_reducible repeat (apply Kd.R_drewN)); exact HO_7.out) hb); have n2_ := Aside0.mk (Kd.R_below (by (with_reducible repeat (apply Kd.R_drewN)); exact HO_8.out) hb); have n3_ := Aside0.mk (below_step (by repeat ((with_reducible first | exact HB.out | apply pw_below_drewN))) hb); clear HO_6; clear HO_7; clear HO_8; clear HB; have HO_6 := n0_; have HO_7 := n1_; have HO_8 := n2_; have HB := n3_; clear n0_ n1_ n2_ n3_; (try clear hb); (try clear hb2); (try clear hk); (try clear hi); obtain ⟨Ao49, co49, eo49⟩ := Kd.R_slice HO_8.out; subst eo49) | ((with_reducible refine gate_builtin (b := .append) (xs := #[.tmp 120, .tmp 124]) rfl ?_); at_builtin; refine Kd.R_append Kd.bool (w0 := w) w.heap.size rfl (.tmp 120) (.tmp 124) 25 4 (.bool false) 1 rfl Tryz.underlying25 info4 rfl (by decide) (by omega) (.slice Ao49 x8_1.length co49) x8_1 false [.bool false] (fun _ => True) (fun _ => False) rfl rfl ?aP (fun _ hk => hk.elim) ?aF ?aO ?aB ?aS ?aL ?_; (case aP => exact rfl); (case aB => exact (by repeat ((with_reducible exact HB.out)))); (case aF => exact (fun _ _ => trivial)); (case aO => exact (by (with_reducible repeat (fail)); exact HO_8.out)); (case aS => exact (below_size (by repeat ((with_reducible exact HB.out))))); (case aL => have := LMc47.out; omega); intro v286 w50 ho hb hg hat; rw [← Ny285.out] at ho; have n0_ := Aside0.mk (Kd.R_over' (by (with_reducible repeat (fail)); exact HO_6.out) (Kd.R_typed (by (with_reducible repeat (fail)); exact HO_8.out)) (by decide) hg); have n1_ := Aside0.mk (Kd.R_over' (by (with_reducible repeat (fail)); exact HO_7.out) (Kd.R_typed (by (with_reducible repeat (fail)); exact HO_8.out)) (by decide) hg); have n2_ := Aside0.mk (hb); have n3_ := Aside0.mk (ho); clear HO_6; clear HO_7; clear HB; clear HO_8; have HO_6 := n0_; have HO_7 := n1_; have HB := n2_; have HO287 := n3_; clear n0_ n1_ n2_ n3_; clear ho hb hg hat)))
                   go_roundg k1
                   case measure => have := HK1.out; omega
                   case rel => exact ⟨(y285), (false), (wrap64 (x10_1 + 1)), (by rfl), (by rfl), H', ⟨by have := HK1.out; omega⟩, ⟨by (with_reducible repeat (fail)); exact HO_6.out⟩, ⟨by (with_reducible repeat (fail)); exact HO_7.out⟩, ⟨by (with_reducible repeat (fail)); exact HO287.out⟩, ⟨by repeat ((with_reducible exact HB.out))⟩⟩
                  ·rw [if_neg c47] at H
                   exact absurd H (by simp)
                 ·rw [if_neg c46] at H
                  have c46b0 : (t281 == (wrap64 (-(wrap64 ((x8_1.length : Int) + 1))))) = false := beq_eq_false_iff_ne.mpr c46
                  have c46b1 : (t281 != (wrap64 (-(wrap64 ((x8_1.length : Int) + 1))))) = true := bne_iff_ne.mpr c46
                  simp only [Option.some.injEq, Prod.mk.injEq] at H
                  obtain ⟨rfl, rfl, rfl, rfl⟩ := H
                  have p272 : 0 ≤ (x10_1 : Int) := of_decide_eq_true (by (with_reducible assumption))
                  have q272 : x10_1 < (t265.length : Int) := of_decide_eq_true (by (with_reducible assumption))
                  obtain ⟨ad272, e272, hx272_0, hx272_1⟩ := at_T84 (Kd.R_reads' HO_7.out).2.2 x10_1 p272 q272
                  obtain rfl : ad270 = ad272 := (by injection e272)
                  replace p272 := eq_true p272
                  replace q272 := eq_true q272
                  have p273 : 0 ≤ ((ji29) : Int) := of_decide_eq_true (by (with_reducible assumption))
                  have q273 : (ji29) < (t265.length : Int) := of_decide_eq_true (by (with_reducible assumption))
                  obtain ⟨ad273, e273, hx273_0, hx273_1⟩ := at_T84 (Kd.R_reads' HO_7.out).2.2 (ji29) p273 q273
                  obtain rfl : ad270 = ad273 := (by injection e273)
                  replace p273 := eq_true p273
                  replace q273 := eq_true q273
                  have p277 : 0 ≤ (x10_1 : Int) := of_decide_eq_true (by (with_reducible assumption))
                  have q277 : x10_1 < (t265.length : Int) := of_decide_eq_true (by (with_reducible assumption))
                  obtain ⟨ad277, e277, hx277_0, hx277_1⟩ := at_T84 (Kd.R_reads' HO_7.out).2.2 x10_1 p277 q277
                  obtain rfl : ad270 = ad277 := (by injection e277)
                  replace p277 := eq_true p277
                  replace q277 := eq_true q277
                  go_wp2_with (fail)
                  repeat (go_quiet (fail); try go_wp2_with (first | (go_at_call 50; (with_reducible refine (depotref03_Tens.calls k1 ((rd_T84 t265 x10_1).f0) true _ A34.out).mono ?_); rintro e w' ⟨rfl, ⟨nd, rfl⟩⟩; (try fail); have p280 : 0 ≤ (x10_1 : Int) := of_decide_eq_true (by (with_reducible assumption)); have q280 : x10_1 < (t265.length : Int) := of_decide_eq_true (by (with_reducible assumption)); obtain ⟨ad280, e280, hx280_0, hx280_1⟩ := at_T84 (Kd.R_reads' HO_7.out).2.2 x10_1 p280 q280; obtain rfl : ad270 = ad280 := (by injection e280); replace p280 := eq_true p280; replace q280 := eq_true q280) | (go_at_call 49; (with_reducible refine (depotref03_Value.calls ((rd_T84 t265 x10_1).f0) t281 _ ?side1 A36.out).mono ?_); (case side1 => exact Env.below HE.out (by repeat ((with_reducible first | exact HB.out | apply pw_below_drewN)))); rintro e w51 ⟨rfl, hb⟩; have n0_ := Aside0.mk (Kd.R_below (by (with_reducible repeat (apply Kd.R_drewN)); exact HO_6.out) hb); have n1_ := Aside0.mk (Kd.R_below (by (with_reducible repeat (apply Kd.R_drewN)); exact HO_7.out) hb); have n2_ := Aside0.mk (Kd.R_below (by (with_reducible repeat (apply Kd.R_drewN)); exact HO_8.out) hb); have n3_ := Aside0.mk (below_step (by repeat ((with_reducible first | exact HB.out | apply pw_below_drewN))) hb); clear HO_6; clear HO_7; clear HO_8; clear HB; have HO_6 := n0_; have HO_7 := n1_; have HO_8 := n2_; have HB := n3_; clear n0_ n1_ n2_ n3_; (try clear hb); (try clear hb2); (try clear hk); (try clear hi); obtain ⟨Ao52, co52, eo52⟩ := Kd.R_slice HO_8.out; subst eo52; have p288 : 0 ≤ (x10_1 : Int) := of_decide_eq_true (by (with_reducible assumption)); have q288 : x10_1 < (t265.length : Int) := of_decide_eq_true (by (with_reducible assumption)); obtain ⟨ad288, e288, hx288_0, hx288_1⟩ := at_T84 (Kd.R_reads' HO_7.out).2.2 x10_1 p288 q288; obtain rfl : ad270 = ad288 := (by injection e288); replace p288 := eq_true p288; replace q288 := eq_true q288)))
                  refine bodyPost_ret (results_list (rs := [.tmp 2, .tmp 3, .tmp 4, .tmp 5]) rfl (by simp) (.tmp (.tmp (.tmp (.tmp .nil))))) rfl ?_
                  exact ⟨_, by rfl, by exact Kd.R_nil _ _ _ _ _, by repeat ((with_reducible first | exact HB.out | apply pw_below_drewN))⟩
               ·rw [if_neg c40] at H
                have c40b0 : decide ((wrap64 ((x8_1.length : Int) + 1)) ≤ 1048576) = false := decide_eq_false c40
                clear c40
                simp only [Option.some.injEq, Prod.mk.injEq] at H
                obtain ⟨rfl, rfl, rfl, rfl⟩ := H
                have p272 : 0 ≤ (x10_1 : Int) := of_decide_eq_true (by (with_reducible assumption))
                have q272 : x10_1 < (t265.length : Int) := of_decide_eq_true (by (with_reducible assumption))
                obtain ⟨ad272, e272, hx272_0, hx272_1⟩ := at_T84 (Kd.R_reads' HO_7.out).2.2 x10_1 p272 q272
                obtain rfl : ad270 = ad272 := (by injection e272)
                replace p272 := eq_true p272
                replace q272 := eq_true q272
                have p273 : 0 ≤ ((ji29) : Int) := of_decide_eq_true (by (with_reducible assumption))
                have q273 : (ji29) < (t265.length : Int) := of_decide_eq_true (by (with_reducible assumption))
                obtain ⟨ad273, e273, hx273_0, hx273_1⟩ := at_T84 (Kd.R_reads' HO_7.out).2.2 (ji29) p273 q273
                obtain rfl : ad270 = ad273 := (by injection e273)
                replace p273 := eq_true p273
                replace q273 := eq_true q273
                have p277 : 0 ≤ (x10_1 : Int) := of_decide_eq_true (by (with_reducible assumption))
                have q277 : x10_1 < (t265.length : Int) := of_decide_eq_true (by (with_reducible assumption))
                obtain ⟨ad277, e277, hx277_0, hx277_1⟩ := at_T84 (Kd.R_reads' HO_7.out).2.2 x10_1 p277 q277
                obtain rfl : ad270 = ad277 := (by injection e277)
                replace p277 := eq_true p277
                replace q277 := eq_true q277
                go_wp2_with (fail)
                repeat (go_quiet (fail); try go_wp2_with (first | (go_at_call 50; (with_reducible refine (depotref03_Tens.calls k1 ((rd_T84 t265 x10_1).f0) true _ A34.out).mono ?_); rintro e w' ⟨rfl, ⟨nd, rfl⟩⟩; (try fail); have p280 : 0 ≤ (x10_1 : Int) := of_decide_eq_true (by (with_reducible assumption)); have q280 : x10_1 < (t265.length : Int) := of_decide_eq_true (by (with_reducible assumption)); obtain ⟨ad280, e280, hx280_0, hx280_1⟩ := at_T84 (Kd.R_reads' HO_7.out).2.2 x10_1 p280 q280; obtain rfl : ad270 = ad280 := (by injection e280); replace p280 := eq_true p280; replace q280 := eq_true q280) | (go_at_call 49; (with_reducible refine (depotref03_Value.calls ((rd_T84 t265 x10_1).f0) t281 _ ?side1 A36.out).mono ?_); (case side1 => exact Env.below HE.out (by repeat ((with_reducible first | exact HB.out | apply pw_below_drewN)))); rintro e w53 ⟨rfl, hb⟩; have n0_ := Aside0.mk (Kd.R_below (by (with_reducible repeat (apply Kd.R_drewN)); exact HO_6.out) hb); have n1_ := Aside0.mk (Kd.R_below (by (with_reducible repeat (apply Kd.R_drewN)); exact HO_7.out) hb); have n2_ := Aside0.mk (Kd.R_below (by (with_reducible repeat (apply Kd.R_drewN)); exact HO_8.out) hb); have n3_ := Aside0.mk (below_step (by repeat ((with_reducible first | exact HB.out | apply pw_below_drewN))) hb); clear HO_6; clear HO_7; clear HO_8; clear HB; have HO_6 := n0_; have HO_7 := n1_; have HO_8 := n2_; have HB := n3_; clear n0_ n1_ n2_ n3_; (try clear hb); (try clear hb2); (try clear hk); (try clear hi); obtain ⟨Ao54, co54, eo54⟩ := Kd.R_slice HO_8.out; subst eo54; have p289 : 0 ≤ (x10_1 : Int) := of_decide_eq_true (by (with_reducible assumption)); have q289 : x10_1 < (t265.length : Int) := of_decide_eq_true (by (with_reducible assumption)); obtain ⟨ad289, e289, hx289_0, hx289_1⟩ := at_T84 (Kd.R_reads' HO_7.out).2.2 x10_1 p289 q289; obtain rfl : ad270 = ad289 := (by injection e289); replace p289 := eq_true p289; replace q289 := eq_true q289)))
                refine bodyPost_ret (results_list (rs := [.tmp 2, .tmp 3, .tmp 4, .tmp 5]) rfl (by simp) (.tmp (.tmp (.tmp (.tmp .nil))))) rfl ?_
                exact ⟨_, by rfl, by exact Kd.R_nil _ _ _ _ _, by repeat ((with_reducible first | exact HB.out | apply pw_below_drewN))⟩
             ·replace c35 := Bool.eq_false_iff.mpr c35
              subst c35
              have H1 : (some (false, ([] : List Bool), 31, (rd_T84 t265 x10_1).f1)) = some (r1, r2, r3, r4) := by rw [if_neg (show ¬ (false = true) by decide)] at H; exact H
              clear H
              have H := H1
              clear H1
              simp only [Option.some.injEq, Prod.mk.injEq] at H
              obtain ⟨rfl, rfl, rfl, rfl⟩ := H
              have p272 : 0 ≤ (x10_1 : Int) := of_decide_eq_true (by (with_reducible assumption))
              have q272 : x10_1 < (t265.length : Int) := of_decide_eq_true (by (with_reducible assumption))
              obtain ⟨ad272, e272, hx272_0, hx272_1⟩ := at_T84 (Kd.R_reads' HO_7.out).2.2 x10_1 p272 q272
              obtain rfl : ad270 = ad272 := (by injection e272)
              replace p272 := eq_true p272
              replace q272 := eq_true q272
              have p273 : 0 ≤ ((ji29) : Int) := of_decide_eq_true (by (with_reducible assumption))
              have q273 : (ji29) < (t265.length : Int) := of_decide_eq_true (by (with_reducible assumption))
              obtain ⟨ad273, e273, hx273_0, hx273_1⟩ := at_T84 (Kd.R_reads' HO_7.out).2.2 (ji29) p273 q273
              obtain rfl : ad270 = ad273 := (by injection e273)
              replace p273 := eq_true p273
              replace q273 := eq_true q273
              have p277 : 0 ≤ (x10_1 : Int) := of_decide_eq_true (by (with_reducible assumption))
              have q277 : x10_1 < (t265.length : Int) := of_decide_eq_true (by (with_reducible assumption))
              obtain ⟨ad277, e277, hx277_0, hx277_1⟩ := at_T84 (Kd.R_reads' HO_7.out).2.2 x10_1 p277 q277
              obtain rfl : ad270 = ad277 := (by injection e277)
              replace p277 := eq_true p277
              replace q277 := eq_true q277
              go_wp2_with (fail)
              repeat (go_quiet (fail); try go_wp2_with (((go_at_call 50; (with_reducible refine (depotref03_Tens.calls k1 ((rd_T84 t265 x10_1).f0) false _ A34.out).mono ?_); rintro e w' ⟨rfl, ⟨nd, rfl⟩⟩; (try fail); have p279 : 0 ≤ (x10_1 : Int) := of_decide_eq_true (by (with_reducible assumption)); have q279 : x10_1 < (t265.length : Int) := of_decide_eq_true (by (with_reducible assumption)); obtain ⟨ad279, e279, hx279_0, hx279_1⟩ := at_T84 (Kd.R_reads' HO_7.out).2.2 x10_1 p279 q279; obtain rfl : ad270 = ad279 := (by injection e279); replace p279 := eq_true p279; replace q279 := eq_true q279))))
              refine bodyPost_ret (results_list (rs := [.tmp 2, .tmp 3, .tmp 4, .tmp 5]) rfl (by simp) (.tmp (.tmp (.tmp (.tmp .nil))))) rfl ?_
              exact ⟨_, by rfl, by exact Kd.R_nil _ _ _ _ _, by repeat ((with_reducible first | exact HB.out | apply pw_below_drewN))⟩
           ·rw [if_neg c32] at H
            have c32b0 : (((rd_T84 t265 x10_1).f1) == ((rd_T84 t265 (ji29)).f1)) = false := beq_eq_false_iff_ne.mpr c32
            have c32b1 : (((rd_T84 t265 x10_1).f1) != ((rd_T84 t265 (ji29)).f1)) = true := bne_iff_ne.mpr c32
            by_cases c55 : ((rd_T84 t265 x10_1).f0).toList = ([118] : List UInt8)
            ·rw [if_pos c55] at H
             have c55b0 : (((rd_T84 t265 x10_1).f0).toList == ([118] : List UInt8)) = true := beq_iff_eq.mpr c55
             have c55b1 : (((rd_T84 t265 x10_1).f0).toList != ([118] : List UInt8)) = false := bne_eq_false_iff_eq.mpr c55
             clear c55
             have H' := Aside0.mk H
             clear H
             have p272 : 0 ≤ (x10_1 : Int) := of_decide_eq_true (by (with_reducible assumption))
             have q272 : x10_1 < (t265.length : Int) := of_decide_eq_true (by (with_reducible assumption))
             obtain ⟨ad272, e272, hx272_0, hx272_1⟩ := at_T84 (Kd.R_reads' HO_7.out).2.2 x10_1 p272 q272
             obtain rfl : ad270 = ad272 := (by injection e272)
             replace p272 := eq_true p272
             replace q272 := eq_true q272
             have p273 : 0 ≤ ((ji29) : Int) := of_decide_eq_true (by (with_reducible assumption))
             have q273 : (ji29) < (t265.length : Int) := of_decide_eq_true (by (with_reducible assumption))
             obtain ⟨ad273, e273, hx273_0, hx273_1⟩ := at_T84 (Kd.R_reads' HO_7.out).2.2 (ji29) p273 q273
             obtain rfl : ad270 = ad273 := (by injection e273)
             replace p273 := eq_true p273
             replace q273 := eq_true q273
             have p274 : 0 ≤ (x10_1 : Int) := of_decide_eq_true (by (with_reducible assumption))
             have q274 : x10_1 < (t265.length : Int) := of_decide_eq_true (by (with_reducible assumption))
             obtain ⟨ad274, e274, hx274_0, hx274_1⟩ := at_T84 (Kd.R_reads' HO_7.out).2.2 x10_1 p274 q274
             obtain rfl : ad270 = ad274 := (by injection e274)
             replace p274 := eq_true p274
             replace q274 := eq_true q274
             go_wp2
             repeat (go_quiet (fail); try go_wp2)
             go_roundg k1
             case measure => have := HK1.out; omega
             case rel => exact ⟨(x8_1), (x9_1), (wrap64 (x10_1 + 1)), (by rfl), (by rfl), H', ⟨by have := HK1.out; omega⟩, ⟨by (with_reducible repeat (apply Kd.R_drewN)); exact HO_6.out⟩, ⟨by (with_reducible repeat (apply Kd.R_drewN)); exact HO_7.out⟩, ⟨by (with_reducible repeat (apply Kd.R_drewN)); exact HO_8.out⟩, ⟨by repeat ((with_reducible first | exact HB.out | apply pw_below_drewN))⟩⟩
            ·rw [if_neg c55] at H
             have c55b0 : (((rd_T84 t265 x10_1).f0).toList == ([118] : List UInt8)) = false := beq_eq_false_iff_ne.mpr c55
             have c55b1 : (((rd_T84 t265 x10_1).f0).toList != ([118] : List UInt8)) = true := bne_iff_ne.mpr c55
             simp only [Option.some.injEq, Prod.mk.injEq] at H
             obtain ⟨rfl, rfl, rfl, rfl⟩ := H
             have p272 : 0 ≤ (x10_1 : Int) := of_decide_eq_true (by (with_reducible assumption))
             have q272 : x10_1 < (t265.length : Int) := of_decide_eq_true (by (with_reducible assumption))
             obtain ⟨ad272, e272, hx272_0, hx272_1⟩ := at_T84 (Kd.R_reads' HO_7.out).2.2 x10_1 p272 q272
             obtain rfl : ad270 = ad272 := (by injection e272)
             replace p272 := eq_true p272
             replace q272 := eq_true q272
             have p273 : 0 ≤ ((ji29) : Int) := of_decide_eq_true (by (with_reducible assumption))
             have q273 : (ji29) < (t265.length : Int) := of_decide_eq_true (by (with_reducible assumption))
             obtain ⟨ad273, e273, hx273_0, hx273_1⟩ := at_T84 (Kd.R_reads' HO_7.out).2.2 (ji29) p273 q273
             obtain rfl : ad270 = ad273 := (by injection e273)
             replace p273 := eq_true p273
             replace q273 := eq_true q273
             have p274 : 0 ≤ (x10_1 : Int) := of_decide_eq_true (by (with_reducible assumption))
             have q274 : x10_1 < (t265.length : Int) := of_decide_eq_true (by (with_reducible assumption))
             obtain ⟨ad274, e274, hx274_0, hx274_1⟩ := at_T84 (Kd.R_reads' HO_7.out).2.2 x10_1 p274 q274
             obtain rfl : ad270 = ad274 := (by injection e274)
             replace p274 := eq_true p274
             replace q274 := eq_true q274
             have p275 : 0 ≤ (x10_1 : Int) := of_decide_eq_true (by (with_reducible assumption))
             have q275 : x10_1 < (t265.length : Int) := of_decide_eq_true (by (with_reducible assumption))
             obtain ⟨ad275, e275, hx275_0, hx275_1⟩ := at_T84 (Kd.R_reads' HO_7.out).2.2 x10_1 p275 q275
             obtain rfl : ad270 = ad275 := (by injection e275)
             replace p275 := eq_true p275
             replace q275 := eq_true q275
             go_wp2
             repeat (go_quiet (fail); try go_wp2)
             refine bodyPost_ret (results_list (rs := [.tmp 2, .tmp 3, .tmp 4, .tmp 5]) rfl (by simp) (.tmp (.tmp (.tmp (.tmp .nil))))) rfl ?_
             exact ⟨_, by rfl, by exact Kd.R_nil _ _ _ _ _, by repeat ((with_reducible first | exact HB.out | apply pw_below_drewN))⟩
          ·rw [if_neg c31] at H
           exact absurd H (by simp)
         ·rw [if_neg c30] at H
          exact absurd H (by simp)
        ·rw [if_neg c28] at H
         exact absurd H (by simp)
       ·rw [if_neg c27] at H
        have c27b0 : decide (x10_1 < (t265.length : Int)) = false := decide_eq_false c27
        clear c27
        by_cases c56 : x9_1 = true
        ·subst c56
         have H1 : (some (true, x8_1, 0, 0)) = some (r1, r2, r3, r4) := by rw [if_pos rfl] at H; exact H
         clear H
         have H := H1
         clear H1
         simp only [Option.some.injEq, Prod.mk.injEq] at H
         obtain ⟨rfl, rfl, rfl, rfl⟩ := H
         go_wp2
         refine bodyPost_ret (results_list (rs := [.tmp 2, .tmp 3, .tmp 4, .tmp 5]) rfl (by simp) (.tmp (.tmp (.tmp (.tmp .nil))))) rfl ?_
         exact ⟨_, by rfl, by (with_reducible repeat (fail)); exact HO_8.out, by repeat ((with_reducible exact HB.out))⟩
        ·replace c56 := Bool.eq_false_iff.mpr c56
         subst c56
         have H1 : (some (false, ([] : List Bool), 33, wrap64 ((t262.length : Int) + 1))) = some (r1, r2, r3, r4) := by rw [if_neg (show ¬ (false = true) by decide)] at H; exact H
         clear H
         have H := H1
         clear H1
         simp only [Option.some.injEq, Prod.mk.injEq] at H
         obtain ⟨rfl, rfl, rfl, rfl⟩ := H
         go_wp2
         refine bodyPost_ret (results_list (rs := [.tmp 2, .tmp 3, .tmp 4, .tmp 5]) rfl (by simp) (.tmp (.tmp (.tmp (.tmp .nil))))) rfl ?_
         exact ⟨_, by rfl, by exact Kd.R_nil _ _ _ _ _, by repeat ((with_reducible exact HB.out))⟩
   ·rw [if_neg c11] at H
    exact absurd H (by simp)
  ·replace c10 := Bool.eq_false_iff.mpr c10
   subst c10
   have H1 : (if 0 < (t265.length : Int) then (some (false, ([] : List Bool), 35, (rd_T84 t265 0).f1)) else (none)) = some (r1, r2, r3, r4) := by rw [if_neg (show ¬ (false = true) by decide)] at H; exact H
   clear H
   have H := H1
   clear H1
   by_cases c57 : 0 < (t265.length : Int)
   ·rw [if_pos c57] at H
    have c57b0 : decide (0 < (t265.length : Int)) = true := decide_eq_true c57
    have c57b1 : decide (0 < t265.length) = true := decide_eq_true (by omega)
    clear c57
    simp only [Option.some.injEq, Prod.mk.injEq] at H
    obtain ⟨rfl, rfl, rfl, rfl⟩ := H
    go_enter Tryz.func33, Tryz.ntmps33
    go_wp2_with (first | (go_at_call 46; (with_reducible refine (depotref03_Lines.calls k a0 t262 _ A2.out).mono ?_); rintro e w58 ⟨v263, rfl, ho0, hb⟩; have n0_ := Aside0.mk (Kd.R_lower ho0 (below_size (by repeat ((with_reducible exact HB.out))))); have n1_ := Aside0.mk (below_step (by repeat ((with_reducible exact HB.out))) hb); clear HB; have HO264 := n0_; have HB := n1_; clear n0_ n1_; (try clear hb); (try clear hb2); (try clear hk); (try clear hi); (try clear ho0); obtain ⟨Ao59, co59, eo59⟩ := Kd.R_slice HO264.out; subst eo59) | (go_at_call 47; (with_reducible refine (depotref03_Spoken.calls k _ _ t262 t265 _ ?side1 ?side2 A3.out).mono ?_); (case side1 => repeat (exact (Kd.R_reads' HO264.out).2.2)); (case side2 => exact (Kd.R_reads' HO264.out).2.1); rintro e w60 ⟨v266, rfl, ho0, hb⟩; have n0_ := Aside0.mk (Kd.R_below (by (with_reducible repeat (fail)); exact HO264.out) hb); have n1_ := Aside0.mk (Kd.R_lower ho0 (below_size (by repeat ((with_reducible exact HB.out))))); have n2_ := Aside0.mk (below_step (by repeat ((with_reducible exact HB.out))) hb); clear HO264; clear HB; have HO264 := n0_; have HO267 := n1_; have HB := n2_; clear n0_ n1_ n2_; (try clear hb); (try clear hb2); (try clear hk); (try clear hi); (try clear ho0); obtain ⟨Ao61, co61, eo61⟩ := Kd.R_slice HO267.out; subst eo61) | (go_at_call 54; (with_reducible refine (depotref03_told.calls k _ _ t265 false _ ?side1 ?side2 A9.out).mono ?_); (case side1 => repeat (exact (Kd.R_reads' HO267.out).2.2)); (case side2 => exact (Kd.R_reads' HO267.out).2.1); rintro e w' ⟨rfl, ⟨nd, rfl⟩⟩; (try fail); have p269 : 0 ≤ (0 : Int) := (by omega); have q269 : 0 < (t265.length : Int) := of_decide_eq_true (by (with_reducible assumption)); obtain ⟨ad269, e269, hx269_0, hx269_1⟩ := at_T84 (Kd.R_reads' HO267.out).2.2 0 p269 q269; cases e269; have qi269 : (0 < t265.length) = True := eq_true (by omega); (try rw [show ((0 : Int)).toNat = 0 from rfl] at hx269_0); (try rw [show 0 * 2 = 0 from rfl] at hx269_0); (try rw [Addr.add_zero'] at hx269_0); (try rw [show ((0 : Int)).toNat = 0 from rfl] at hx269_1); (try rw [show 0 * 2 = 0 from rfl] at hx269_1); (try rw [Addr.add_zero'] at hx269_1); replace p269 := eq_true p269; replace q269 := eq_true q269))
    repeat (go_quiet (fail); try go_wp2_with (fail))
    refine bodyPost_ret (results_list (rs := [.tmp 2, .tmp 3, .tmp 4, .tmp 5]) rfl (by simp) (.tmp (.tmp (.tmp (.tmp .nil))))) rfl ?_
    exact ⟨_, by rfl, by exact Kd.R_nil _ _ _ _ _, by repeat ((with_reducible first | exact HB.out | apply pw_below_drewN))⟩
   ·rw [if_neg c57] at H
    exact absurd H (by simp)

end Go.Proofs.YtlhajfepcggjaaaGreatDoor.R
