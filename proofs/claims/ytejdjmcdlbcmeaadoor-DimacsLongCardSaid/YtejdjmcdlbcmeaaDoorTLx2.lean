/- Lean functions of the Go functions that the laws of this seat reach, and the proof that each call comes to them: written by a program of this session (wip/printx.sh) over the kit's print. No conditions. -/
import Derived.Test.YtejdjmcdlbcmeaaDoorTLx0
import Derived.Test.YtejdjmcdlbcmeaaDoorTLx1
import Derived.Test.YtejdjmcdlbcmeaaDoorEnvL
namespace Go.Proofs.YtejdjmcdlbcmeaaDoor.T
open Go.RowKit Go.Proofs.YtejdjmcdlbcmeaaDoorW.PrintWords Go.Proofs.YtejdjmcdlbcmeaaDoorW.PrintLast Go.Proofs.YtejdjmcdlbcmeaaDoorW.PrintMore
attribute [local go_sem] max2_int min2_int max_two min_two max_three min_three max_four min_four   -- for this text's walks alone
set_option linter.unusedVariables false
set_option linter.unusedSimpArgs false

/-! ### depotlaw03_DimacsLong: function 7 -/
mutual
def depotlaw03_DimacsLong.j0 : Nat → Bool → List Bool → ByteArray → List Bool → Bool → Option (Bool)
  | 0, _, _, _, _, _ => none
  | k + 1, x0, x1, x5, x7, x53 => if x53 = true then (some false) else (if x0 = true then (depotlaw03_DimacsLong.l0 k x1 x5 x7 0 0 0 0) else (some ((x7.length : Int) == 0)))
def depotlaw03_DimacsLong.l0 : Nat → List Bool → ByteArray → List Bool → Int → Int → Int → Int → Option (Bool)
  | 0, _, _, _, _, _, _, _ => none
  | k + 1, x1, x5, x7, x10, x11, x12, x13 => if x13 < (x5.size : Int) then (if 0 ≤ x13 then (if (bt x5 x13) = 10 then (depotlaw03_DimacsLong.l1 k x1 x5 x7 x10 x11 x12 x13 0 (wrap64 (x10 + 2))) else (depotlaw03_DimacsLong.l0 k x1 x5 x7 x10 x11 x12 (wrap64 (x13 + 1)))) else (none)) else ((depotref00_SameBools.f k x1 x7).bind fun t117 => (some t117))
def depotlaw03_DimacsLong.l1 : Nat → List Bool → ByteArray → List Bool → Int → Int → Int → Int → Int → Int → Option (Bool)
  | 0, _, _, _, _, _, _, _, _, _ => none
  | k + 1, x1, x5, x7, x10, x11, x12, x13, x14, x15 => if x15 < x13 then (if 0 ≤ x15 then (if x15 < (x5.size : Int) then (if (bt x5 x15) = 32 then (if (wrap64 (x13 - x10)) > 78 then (some false) else (if x12 > 1 then (if (wrap64 ((wrap64 (x11 + 1)) + x14)) ≤ 78 then (some false) else (depotlaw03_DimacsLong.l0 k x1 x5 x7 (wrap64 (x13 + 1)) (wrap64 (x13 - x10)) (wrap64 (x12 + 1)) (wrap64 (x13 + 1)))) else (depotlaw03_DimacsLong.l0 k x1 x5 x7 (wrap64 (x13 + 1)) (wrap64 (x13 - x10)) (wrap64 (x12 + 1)) (wrap64 (x13 + 1))))) else (depotlaw03_DimacsLong.l1 k x1 x5 x7 x10 x11 x12 x13 (wrap64 (x14 + 1)) (wrap64 (x15 + 1)))) else (none)) else (none)) else (if (wrap64 (x13 - x10)) > 78 then (some false) else (if x12 > 1 then (if (wrap64 ((wrap64 (x11 + 1)) + x14)) ≤ 78 then (some false) else (depotlaw03_DimacsLong.l0 k x1 x5 x7 (wrap64 (x13 + 1)) (wrap64 (x13 - x10)) (wrap64 (x12 + 1)) (wrap64 (x13 + 1)))) else (depotlaw03_DimacsLong.l0 k x1 x5 x7 (wrap64 (x13 + 1)) (wrap64 (x13 - x10)) (wrap64 (x12 + 1)) (wrap64 (x13 + 1)))))
end
def depotlaw03_DimacsLong.f (k : Nat) (a0 : Bool) (l1 : List Bool) : Option (Bool) := if (l1.length : Int) > 1048576 then (some true) else ((depotref00_CopyBools.f k l1).bind fun t107 => ((dimacs_WriteAnswer.f a0 t107).bind fun t110 => ((dimacs_ReadAnswer.f t110).bind fun bt111 => (if bt111.2.2.1 = 0 then (if bt111.2.2.2 = 0 then (if (bt111.1 != a0) = true then (depotlaw03_DimacsLong.j0 k a0 l1 t110 bt111.2.1 true) else (if (t110.size : Int) = 0 then (depotlaw03_DimacsLong.j0 k a0 l1 t110 bt111.2.1 true) else (if 0 ≤ (wrap64 ((t110.size : Int) - 1)) then (if (wrap64 ((t110.size : Int) - 1)) < (t110.size : Int) then (depotlaw03_DimacsLong.j0 k a0 l1 t110 bt111.2.1 ((bt t110 (wrap64 ((t110.size : Int) - 1))) != 10)) else (none)) else (none)))) else (depotlaw03_DimacsLong.j0 k a0 l1 t110 bt111.2.1 true)) else (depotlaw03_DimacsLong.j0 k a0 l1 t110 bt111.2.1 true)))))
theorem depotlaw03_DimacsLong.mono_l : ∀ k, (∀ y0 y1 y2 y3 y4, LeO (depotlaw03_DimacsLong.j0 k y0 y1 y2 y3 y4) (depotlaw03_DimacsLong.j0 (k + 1) y0 y1 y2 y3 y4)) ∧ (∀ y0 y1 y2 y3 y4 y5 y6, LeO (depotlaw03_DimacsLong.l0 k y0 y1 y2 y3 y4 y5 y6) (depotlaw03_DimacsLong.l0 (k + 1) y0 y1 y2 y3 y4 y5 y6)) ∧ (∀ y0 y1 y2 y3 y4 y5 y6 y7 y8, LeO (depotlaw03_DimacsLong.l1 k y0 y1 y2 y3 y4 y5 y6 y7 y8) (depotlaw03_DimacsLong.l1 (k + 1) y0 y1 y2 y3 y4 y5 y6 y7 y8))
  | 0 => ⟨fun _ _ _ _ _ r h => by simp [depotlaw03_DimacsLong.j0] at h, fun _ _ _ _ _ _ _ r h => by simp [depotlaw03_DimacsLong.l0] at h, fun _ _ _ _ _ _ _ _ _ r h => by simp [depotlaw03_DimacsLong.l1] at h⟩
  | k + 1 => by
    obtain ⟨ih0, ih1, ih2⟩ := depotlaw03_DimacsLong.mono_l k
    refine ⟨?_, ?_, ?_⟩
    · intro y0 y1 y2 y3 y4
      unfold depotlaw03_DimacsLong.j0
      repeat' first
      | (with_reducible exact ih0 _ _ _ _ _)
      | (with_reducible exact ih1 _ _ _ _ _ _ _)
      | (with_reducible exact ih2 _ _ _ _ _ _ _ _ _)
      | (with_reducible exact depotref00_CopyBools.mono _ _)
      | (with_reducible exact depotref00_SameBools.mono _ _ _)
      | (with_reducible exact LeO.refl _)
      | (with_reducible exact LeO.none _)
      | (with_reducible refine LeO.ite ?_ ?_)
      | (with_reducible refine LeO.bind ?_ (fun _ => ?_))
      | exact ih0 _ _ _ _ _
      | exact ih1 _ _ _ _ _ _ _
      | exact ih2 _ _ _ _ _ _ _ _ _
      | exact depotref00_CopyBools.mono _ _
      | exact depotref00_SameBools.mono _ _ _
      | exact LeO.none _
      | refine LeO.ite ?_ ?_
      | refine LeO.bind ?_ (fun _ => ?_)
    · intro y0 y1 y2 y3 y4 y5 y6
      unfold depotlaw03_DimacsLong.l0
      repeat' first
      | (with_reducible exact ih0 _ _ _ _ _)
      | (with_reducible exact ih1 _ _ _ _ _ _ _)
      | (with_reducible exact ih2 _ _ _ _ _ _ _ _ _)
      | (with_reducible exact depotref00_CopyBools.mono _ _)
      | (with_reducible exact depotref00_SameBools.mono _ _ _)
      | (with_reducible exact LeO.refl _)
      | (with_reducible exact LeO.none _)
      | (with_reducible refine LeO.ite ?_ ?_)
      | (with_reducible refine LeO.bind ?_ (fun _ => ?_))
      | exact ih0 _ _ _ _ _
      | exact ih1 _ _ _ _ _ _ _
      | exact ih2 _ _ _ _ _ _ _ _ _
      | exact depotref00_CopyBools.mono _ _
      | exact depotref00_SameBools.mono _ _ _
      | exact LeO.none _
      | refine LeO.ite ?_ ?_
      | refine LeO.bind ?_ (fun _ => ?_)
    · intro y0 y1 y2 y3 y4 y5 y6 y7 y8
      unfold depotlaw03_DimacsLong.l1
      repeat' first
      | (with_reducible exact ih0 _ _ _ _ _)
      | (with_reducible exact ih1 _ _ _ _ _ _ _)
      | (with_reducible exact ih2 _ _ _ _ _ _ _ _ _)
      | (with_reducible exact depotref00_CopyBools.mono _ _)
      | (with_reducible exact depotref00_SameBools.mono _ _ _)
      | (with_reducible exact LeO.refl _)
      | (with_reducible exact LeO.none _)
      | (with_reducible refine LeO.ite ?_ ?_)
      | (with_reducible refine LeO.bind ?_ (fun _ => ?_))
      | exact ih0 _ _ _ _ _
      | exact ih1 _ _ _ _ _ _ _
      | exact ih2 _ _ _ _ _ _ _ _ _
      | exact depotref00_CopyBools.mono _ _
      | exact depotref00_SameBools.mono _ _ _
      | exact LeO.none _
      | refine LeO.ite ?_ ?_
      | refine LeO.bind ?_ (fun _ => ?_)
theorem depotlaw03_DimacsLong.mono : ∀ a0 a1 k, LeO (depotlaw03_DimacsLong.f k a0 a1) (depotlaw03_DimacsLong.f (k + 1) a0 a1) := by
  intro a0 a1 k
  obtain ⟨ih0, ih1, ih2⟩ := depotlaw03_DimacsLong.mono_l k
  unfold depotlaw03_DimacsLong.f
  repeat' first
      | (with_reducible exact ih0 _ _ _ _ _)
      | (with_reducible exact ih1 _ _ _ _ _ _ _)
      | (with_reducible exact ih2 _ _ _ _ _ _ _ _ _)
      | (with_reducible exact depotref00_CopyBools.mono _ _)
      | (with_reducible exact depotref00_SameBools.mono _ _ _)
      | (with_reducible exact LeO.refl _)
      | (with_reducible exact LeO.none _)
      | (with_reducible refine LeO.ite ?_ ?_)
      | (with_reducible refine LeO.bind ?_ (fun _ => ?_))
      | exact ih0 _ _ _ _ _
      | exact ih1 _ _ _ _ _ _ _
      | exact ih2 _ _ _ _ _ _ _ _ _
      | exact depotref00_CopyBools.mono _ _
      | exact depotref00_SameBools.mono _ _ _
      | exact LeO.none _
      | refine LeO.ite ?_ ?_
      | refine LeO.bind ?_ (fun _ => ?_)
set_option maxHeartbeats 8000000 in
set_option maxRecDepth 100000 in
theorem depotlaw03_DimacsLong.calls (k : Nat) (a0 : Bool) (A1 : Option Addr) (c1 : Nat) (l1 : List Bool) (r : Bool) (w : World) (hr1 : Kd.C Kd.bool w A1 l1.length l1) (hc1 : l1.length ≤ c1) (hE : Env w) (h : depotlaw03_DimacsLong.f k a0 l1 = some r) :
    Calls Tryd.prog 7 #[.bool a0, .slice A1 l1.length c1] w fun e w' => e = .returned (.bool r) ∧ Below w.heap.size w w' := by
  have HR1 := Aside0.mk hr1
  have HC1 := Aside0.mk hc1
  clear hr1 hc1
  have HB := Aside0.mk (Below.refl w.heap.size w)
  have HE := Aside0.mk hE
  clear hE
  have H : (if (l1.length : Int) > 1048576 then (some true) else ((depotref00_CopyBools.f k l1).bind fun t107 => ((dimacs_WriteAnswer.f a0 t107).bind fun t110 => ((dimacs_ReadAnswer.f t110).bind fun bt111 => (if bt111.2.2.1 = 0 then (if bt111.2.2.2 = 0 then (if (bt111.1 != a0) = true then (depotlaw03_DimacsLong.j0 k a0 l1 t110 bt111.2.1 true) else (if (t110.size : Int) = 0 then (depotlaw03_DimacsLong.j0 k a0 l1 t110 bt111.2.1 true) else (if 0 ≤ (wrap64 ((t110.size : Int) - 1)) then (if (wrap64 ((t110.size : Int) - 1)) < (t110.size : Int) then (depotlaw03_DimacsLong.j0 k a0 l1 t110 bt111.2.1 ((bt t110 (wrap64 ((t110.size : Int) - 1))) != 10)) else (none)) else (none)))) else (depotlaw03_DimacsLong.j0 k a0 l1 t110 bt111.2.1 true)) else (depotlaw03_DimacsLong.j0 k a0 l1 t110 bt111.2.1 true)))))) = some r := h
  clear h
  by_cases c3 : (l1.length : Int) > 1048576
  · rw [if_pos c3] at H
    have c3b0 : decide (1048576 < (l1.length : Int)) = true := decide_eq_true c3
    have c3b1 : decide (1048576 < l1.length) = true := decide_eq_true (by omega)
    clear c3
    obtain rfl := Option.some.inj H
    go_enter Tryd.func7, Tryd.ntmps7
    go_wp2
    go_ret
    exact ⟨by first | rfl | (simp [errW_none, errW_some] <;> rfl) | (simp [*, errW_none, errW_some] <;> rfl), by repeat (first | (with_reducible first | exact HB.out | apply below_alloc | apply pw_below_drewN | apply below_drew1) | exact HB.out)⟩
  · rw [if_neg c3] at H
    have c3b0 : decide (1048576 < (l1.length : Int)) = false := decide_eq_false c3
    have c3b1 : decide (1048576 < l1.length) = false := decide_eq_false (by omega)
    clear c3
    replace H := Option.bind_eq_some_iff.mp H
    obtain ⟨t107, A40, H⟩ := H
    replace H : ((dimacs_WriteAnswer.f a0 t107).bind fun t110 => ((dimacs_ReadAnswer.f t110).bind fun bt111 => (if bt111.2.2.1 = 0 then (if bt111.2.2.2 = 0 then (if (bt111.1 != a0) = true then (depotlaw03_DimacsLong.j0 k a0 l1 t110 bt111.2.1 true) else (if (t110.size : Int) = 0 then (depotlaw03_DimacsLong.j0 k a0 l1 t110 bt111.2.1 true) else (if 0 ≤ (wrap64 ((t110.size : Int) - 1)) then (if (wrap64 ((t110.size : Int) - 1)) < (t110.size : Int) then (depotlaw03_DimacsLong.j0 k a0 l1 t110 bt111.2.1 ((bt t110 (wrap64 ((t110.size : Int) - 1))) != 10)) else (none)) else (none)))) else (depotlaw03_DimacsLong.j0 k a0 l1 t110 bt111.2.1 true)) else (depotlaw03_DimacsLong.j0 k a0 l1 t110 bt111.2.1 true)))) = some r := H
    have A4 := Aside0.mk A40
    clear A40
    replace H := Option.bind_eq_some_iff.mp H
    obtain ⟨t110, A50, H⟩ := H
    replace H : ((dimacs_ReadAnswer.f t110).bind fun bt111 => (if bt111.2.2.1 = 0 then (if bt111.2.2.2 = 0 then (if (bt111.1 != a0) = true then (depotlaw03_DimacsLong.j0 k a0 l1 t110 bt111.2.1 true) else (if (t110.size : Int) = 0 then (depotlaw03_DimacsLong.j0 k a0 l1 t110 bt111.2.1 true) else (if 0 ≤ (wrap64 ((t110.size : Int) - 1)) then (if (wrap64 ((t110.size : Int) - 1)) < (t110.size : Int) then (depotlaw03_DimacsLong.j0 k a0 l1 t110 bt111.2.1 ((bt t110 (wrap64 ((t110.size : Int) - 1))) != 10)) else (none)) else (none)))) else (depotlaw03_DimacsLong.j0 k a0 l1 t110 bt111.2.1 true)) else (depotlaw03_DimacsLong.j0 k a0 l1 t110 bt111.2.1 true))) = some r := H
    have A5 := Aside0.mk A50
    clear A50
    replace H := Option.bind_eq_some_iff.mp H
    obtain ⟨⟨t111, t112, t113, t114⟩, A60, H⟩ := H
    replace H : (if t113 = 0 then (if t114 = 0 then (if (t111 != a0) = true then (depotlaw03_DimacsLong.j0 k a0 l1 t110 t112 true) else (if (t110.size : Int) = 0 then (depotlaw03_DimacsLong.j0 k a0 l1 t110 t112 true) else (if 0 ≤ (wrap64 ((t110.size : Int) - 1)) then (if (wrap64 ((t110.size : Int) - 1)) < (t110.size : Int) then (depotlaw03_DimacsLong.j0 k a0 l1 t110 t112 ((bt t110 (wrap64 ((t110.size : Int) - 1))) != 10)) else (none)) else (none)))) else (depotlaw03_DimacsLong.j0 k a0 l1 t110 t112 true)) else (depotlaw03_DimacsLong.j0 k a0 l1 t110 t112 true)) = some r := H
    have A6 := Aside0.mk A60
    clear A60
    have HC7 := Aside0.mk H
    clear H
    go_enter Tryd.func7, Tryd.ntmps7
    go_upto_region 5 with (first | ((with_reducible refine gate_callee (f := 13) rfl ?_); refine goesL_ (some 21) rfl rfl Tryd.func13 (by kernel_rfl) rfl #[.slice A1 l1.length c1] rfl (by (try simp only [List.map_toArray, List.map_cons, List.map_nil]); first | done | rfl | (simp only [List.length_drop, List.length_take]; rfl)) ?_; (with_reducible refine (depotref00_CopyBools.calls k _ _ l1 t107 _ ?side1 ?side2 A4.out).mono ?_); (case side1 => repeat (first | exact HR1.out | (with_reducible refine Kd.C_alloc ?_ _) | (with_reducible refine Kd.C_drewN ?_ _) | (with_reducible refine Kd.C_drew ?_))); (case side2 => exact HC1.out); rintro e w8 ⟨v108, rfl, ho0, hb⟩; refine ⟨_, rfl, ?_⟩; have n0_ := Aside0.mk (Kd.R_lower ho0 (below_size (by repeat (first | (with_reducible first | exact HB.out | apply below_alloc | apply pw_below_drewN | apply below_drew1) | exact HB.out)))); have n1_ := Aside0.mk (below_step (by repeat (first | (with_reducible first | exact HB.out | apply below_alloc | apply pw_below_drewN | apply below_drew1) | exact HB.out)) hb); clear HB; have HO109 := n0_; have HB := n1_; clear n0_ n1_; (try clear hb); (try clear hb2); (try clear hk); (try clear hi); (try clear ho0); obtain ⟨Ao9, co9, eo9⟩ := Kd.R_slice HO109.out; subst eo9) | ((with_reducible refine gate_callee (f := 12) rfl ?_); refine goesL_ (some 22) rfl rfl Tryd.func12 (by kernel_rfl) rfl #[.bool a0, .slice Ao9 t107.length co9] rfl (by (try simp only [List.map_toArray, List.map_cons, List.map_nil]); first | done | rfl | (simp only [List.length_drop, List.length_take]; rfl)) ?_; (with_reducible refine (dimacs_WriteAnswer.calls a0 _ _ t107 t110 _ ?side1 ?side2 ?side3 A5.out).mono ?_); (case side1 => repeat (first | exact (Kd.R_reads' HO109.out).2.2 | (with_reducible refine Kd.C_alloc ?_ _) | (with_reducible refine Kd.C_drewN ?_ _) | (with_reducible refine Kd.C_drew ?_))); (case side2 => exact (Kd.R_reads' HO109.out).2.1); (case side3 => exact Env.below HE.out (by repeat (first | (with_reducible first | exact HB.out | apply below_alloc | apply pw_below_drewN | apply below_drew1) | exact HB.out))); rintro e w10 ⟨rfl, hb⟩; refine ⟨_, rfl, ?_⟩; have n0_ := Aside0.mk (Kd.R_below (by (with_reducible repeat (first | apply Kd.R_alloc | apply Kd.R_drewN | apply Kd.R_drew)); exact HO109.out) hb); have n1_ := Aside0.mk (below_step (by repeat (first | (with_reducible first | exact HB.out | apply below_alloc | apply pw_below_drewN | apply below_drew1) | exact HB.out)) hb); clear HO109; clear HB; have HO109 := n0_; have HB := n1_; clear n0_ n1_; (try clear hb); (try clear hb2); (try clear hk); (try clear hi)) | ((with_reducible refine gate_callee (f := 24) rfl ?_); refine goesL_ (some 25) rfl rfl Tryd.func24 (by kernel_rfl) rfl #[.string t110] rfl (by (try simp only [List.map_toArray, List.map_cons, List.map_nil]); first | done | rfl | (simp only [List.length_drop, List.length_take]; rfl)) ?_; (with_reducible refine (dimacs_ReadAnswer.calls t110 t111 t112 t113 t114 _ ?side1 A6.out).mono ?_); (case side1 => exact Env.below HE.out (by repeat (first | (with_reducible first | exact HB.out | apply below_alloc | apply pw_below_drewN | apply below_drew1) | exact HB.out))); rintro e w11 ⟨v115, rfl, ho0, hb⟩; refine ⟨_, rfl, ?_⟩; have n0_ := Aside0.mk (Kd.R_elder' (by (with_reducible repeat (first | apply Kd.R_alloc | apply Kd.R_drewN | apply Kd.R_drew)); exact HO109.out) (Kd.R_base ho0) hb); have n1_ := Aside0.mk (Kd.R_lower (Kd.R_new' ho0 (Kd.R_lt (by (with_reducible repeat (first | apply Kd.R_alloc | apply Kd.R_drewN | apply Kd.R_drew)); exact HO109.out))) (below_size (by repeat (first | (with_reducible first | exact HB.out | apply below_alloc | apply pw_below_drewN | apply below_drew1) | exact HB.out)))); have n2_ := Aside0.mk (below_step (by repeat (first | (with_reducible first | exact HB.out | apply below_alloc | apply pw_below_drewN | apply below_drew1) | exact HB.out)) hb); clear HO109; clear HB; have HO109 := n0_; have HO116 := n1_; have HB := n2_; clear n0_ n1_ n2_; (try clear hb); (try clear hb2); (try clear hk); (try clear hi); (try clear ho0)))
    (try simp only [Act.put, List.setIfInBounds_toArray, List.set_cons_zero, List.set_cons_succ])
    go_cut [53] (fun v53 wc => ∃ (kq : Nat) (x53_6 : Bool), v53 = .bool x53_6 ∧ Aside0 (depotlaw03_DimacsLong.j0 kq a0 l1 t110 t112 x53_6 = some r) ∧ Aside0 (kq ≤ k) ∧ Aside0 (Kd.R Kd.bool 4 wc w.heap.size (fun _ => True) v115 t112) ∧ Aside0 (Below w.heap.size w wc))
    case first =>
      have H := HC7.out
      clear HC7
      by_cases c12 : t113 = 0
      · rw [if_pos c12] at H
        have c12b0 : (t113 == 0) = true := beq_iff_eq.mpr c12
        have c12b1 : (t113 != 0) = false := bne_eq_false_iff_eq.mpr c12
        clear c12
        (first | rw [c12b0] | (simp only [i64_w, i32_w]; rw [c12b0]) | skip)
        by_cases c13 : t114 = 0
        · rw [if_pos c13] at H
          have c13b0 : (t114 == 0) = true := beq_iff_eq.mpr c13
          have c13b1 : (t114 != 0) = false := bne_eq_false_iff_eq.mpr c13
          clear c13
          by_cases c14 : (t111 != a0) = true
          · rw [if_pos c14] at H
            have c14b0 : (t111 != a0) = true := c14
            (try (have c14b1 : decide (t111 = a0) = false := by simpa using c14))
            (try (have c14b2 : (t111 == a0) = false := by simpa using c14))
            (try (have c14b3 : ¬ (t111 = a0) := by simpa using c14))
            clear c14
            have H' := Aside0.mk H
            clear H
            go_wp2
            go_meet
            case rel => exact ⟨_, (true), (by first | rfl | (simp; done) | (simp [*]; done)), H', ⟨by first | omega | exact Nat.le_refl _⟩, ⟨by (with_reducible repeat (first | apply Kd.R_alloc | apply Kd.R_drewN | apply Kd.R_drew)); exact Kd.R_mono HO116.out (fun _ hk => trivial)⟩, ⟨by repeat (first | (with_reducible first | exact HB.out | apply below_alloc | apply pw_below_drewN | apply below_drew1) | exact HB.out)⟩⟩
          · rw [if_neg c14] at H
            have c14b0 : (t111 != a0) = false := by simpa using c14
            (try (have c14b1 : decide (t111 = a0) = true := by simpa using c14))
            (try (have c14b2 : (t111 == a0) = true := by simpa using c14))
            clear c14
            by_cases c15 : (t110.size : Int) = 0
            · rw [if_pos c15] at H
              have c15b0 : ((t110.size : Int) == 0) = true := beq_iff_eq.mpr c15
              have c15b1 : ((t110.size : Int) != 0) = false := bne_eq_false_iff_eq.mpr c15
              clear c15
              have H' := Aside0.mk H
              clear H
              go_wp2
              go_meet
              case rel => exact ⟨_, (true), (by first | rfl | (simp; done) | (simp [*]; done)), H', ⟨by first | omega | exact Nat.le_refl _⟩, ⟨by (with_reducible repeat (first | apply Kd.R_alloc | apply Kd.R_drewN | apply Kd.R_drew)); exact Kd.R_mono HO116.out (fun _ hk => trivial)⟩, ⟨by repeat (first | (with_reducible first | exact HB.out | apply below_alloc | apply pw_below_drewN | apply below_drew1) | exact HB.out)⟩⟩
            · rw [if_neg c15] at H
              have c15b0 : ((t110.size : Int) == 0) = false := beq_eq_false_iff_ne.mpr c15
              have c15b1 : ((t110.size : Int) != 0) = true := bne_iff_ne.mpr c15
              obtain ⟨ji16, hji16⟩ : ∃ j_ : Int, (wrap64 ((t110.size : Int) - 1)) = j_ := ⟨_, rfl⟩
              replace H : (if 0 ≤ (ji16) then (if (ji16) < (t110.size : Int) then (depotlaw03_DimacsLong.j0 k a0 l1 t110 t112 ((bt t110 (ji16)) != 10)) else (none)) else (none)) = some r := by first | (rw [hji16] at H; exact H) | (simp only [hji16] at H ⊢; exact H)
              have hji16w : (IntKind.i64.wrap ((t110.size : Int) - 1)) = ji16 := (i64_w _).trans hji16
              by_cases c17 : 0 ≤ (ji16)
              · rw [if_pos c17] at H
                have c17b0 : decide (0 ≤ (ji16)) = true := decide_eq_true c17
                clear c17
                by_cases c18 : (ji16) < (t110.size : Int)
                · rw [if_pos c18] at H
                  have c18b0 : decide ((ji16) < (t110.size : Int)) = true := decide_eq_true c18
                  clear c18
                  have H' := Aside0.mk H
                  clear H
                  have p19 : 0 ≤ ((ji16) : Int) := of_decide_eq_true (by first | (with_reducible assumption) | assumption)
                  have q19 : (ji16) < (t110.size : Int) := of_decide_eq_true (by first | (with_reducible assumption) | assumption)
                  have hx19 := bt_at t110 (ji16)
                  replace p19 := eq_true p19
                  replace q19 := eq_true q19
                  go_wp2
                  go_meet
                  case rel => exact ⟨_, (((bt t110 (ji16)) != 10)), (by first | rfl | (simp; done) | (simp only [← hji16] <;> (first | rfl | simp)) | (simp [*]; done)), H', ⟨by first | omega | exact Nat.le_refl _⟩, ⟨by (with_reducible repeat (first | apply Kd.R_alloc | apply Kd.R_drewN | apply Kd.R_drew)); exact Kd.R_mono HO116.out (fun _ hk => trivial)⟩, ⟨by repeat (first | (with_reducible first | exact HB.out | apply below_alloc | apply pw_below_drewN | apply below_drew1) | exact HB.out)⟩⟩
                · rw [if_neg c18] at H
                  exact absurd H (by simp)
              · rw [if_neg c17] at H
                exact absurd H (by simp)
        · rw [if_neg c13] at H
          have c13b0 : (t114 == 0) = false := beq_eq_false_iff_ne.mpr c13
          have c13b1 : (t114 != 0) = true := bne_iff_ne.mpr c13
          have H' := Aside0.mk H
          clear H
          go_wp2
          go_meet
          case rel => exact ⟨_, (true), (by first | rfl | (simp; done) | (simp [*]; done)), H', ⟨by first | omega | exact Nat.le_refl _⟩, ⟨by (with_reducible repeat (first | apply Kd.R_alloc | apply Kd.R_drewN | apply Kd.R_drew)); exact Kd.R_mono HO116.out (fun _ hk => trivial)⟩, ⟨by repeat (first | (with_reducible first | exact HB.out | apply below_alloc | apply pw_below_drewN | apply below_drew1) | exact HB.out)⟩⟩
      · rw [if_neg c12] at H
        have c12b0 : (t113 == 0) = false := beq_eq_false_iff_ne.mpr c12
        have c12b1 : (t113 != 0) = true := bne_iff_ne.mpr c12
        (first | rw [c12b0] | (simp only [i64_w, i32_w]; rw [c12b0]) | skip)
        have H' := Aside0.mk H
        clear H
        go_wp2
        go_meet
        case rel => exact ⟨_, (true), (by first | rfl | (simp; done) | (simp [*]; done)), H', ⟨by first | omega | exact Nat.le_refl _⟩, ⟨by (with_reducible repeat (first | apply Kd.R_alloc | apply Kd.R_drewN | apply Kd.R_drew)); exact Kd.R_mono HO116.out (fun _ hk => trivial)⟩, ⟨by repeat (first | (with_reducible first | exact HB.out | apply below_alloc | apply pw_below_drewN | apply below_drew1) | exact HB.out)⟩⟩
    case rest =>
      clear HC7
      try clear c1
      try clear p1
      try clear q1
      try clear hx1
      try clear c2
      try clear p2
      try clear c3
      try clear c3b0
      try clear c3b1
      try clear p6
      try clear c7
      try clear c12
      try clear c12b0
      try clear c12b1
      try clear c13
      try clear c13b0
      try clear c13b1
      try clear c14
      try clear c14b0
      try clear c14b1
      try clear c14b2
      try clear c15
      try clear c15b0
      try clear c15b1
      try clear c17
      try clear c17b0
      try clear c18
      try clear c18b0
      try clear p19
      try clear q19
      try clear hx19
      try clear p19
      try clear q19
      obtain ⟨kq, x53_6, rfl, HA, HJ6, HO_7, HB⟩ := hcut
      cases kq with
      | zero => exact absurd HA.out (by simp [depotlaw03_DimacsLong.j0])
      | succ kj6 =>
        have H := HA.out
        clear HA
        simp only [depotlaw03_DimacsLong.j0] at H
        by_cases c20 : x53_6 = true
        · subst c20
          have H1 : (some false) = some r := by rw [if_pos rfl] at H; exact H
          clear H
          have H := H1
          clear H1
          obtain rfl := Option.some.inj H
          go_wp2
          go_ret
          exact ⟨by first | rfl | (simp [errW_none, errW_some] <;> rfl) | (simp [*, errW_none, errW_some] <;> rfl), by repeat (first | (with_reducible first | exact HB.out | apply below_alloc | apply pw_below_drewN | apply below_drew1) | exact HB.out)⟩
        · replace c20 := Bool.eq_false_iff.mpr c20
          subst c20
          have H1 : (if a0 = true then (depotlaw03_DimacsLong.l0 kj6 l1 t110 t112 0 0 0 0) else (some ((t112.length : Int) == 0))) = some r := by rw [if_neg (show ¬ (false = true) by decide)] at H; exact H
          clear H
          have H := H1
          clear H1
          by_cases c21 : a0 = true
          · subst c21
            have H1 : (depotlaw03_DimacsLong.l0 kj6 l1 t110 t112 0 0 0 0) = some r := by rw [if_pos rfl] at H; exact H
            clear H
            have H := H1
            clear H1
            have H' := Aside0.mk H
            clear H
            go_wp2
            go_loopg [10, 11, 12, 13] kj6 (fun kq v10 v11 v12 v13 w' => ∃ (x10_2 : Int) (x11_2 : Int) (x12_2 : Int) (x13_2 : Int), v10 = .int .i64 x10_2 ∧ v11 = .int .i64 x11_2 ∧ v12 = .int .i64 x12_2 ∧ v13 = .int .i64 x13_2 ∧ Aside0 (depotlaw03_DimacsLong.l0 kq l1 t110 t112 x10_2 x11_2 x12_2 x13_2 = some r) ∧ Aside0 (kq ≤ kj6) ∧ Aside0 (Kd.R Kd.bool 4 w' w.heap.size (fun _ => True) v115 t112) ∧ Aside0 (Below w.heap.size w w'))
            case atStart => exact ⟨(0), (0), (0), (0), (by first | rfl | (simp; done) | (simp [*]; done)), (by first | rfl | (simp; done) | (simp [*]; done)), (by first | rfl | (simp; done) | (simp [*]; done)), (by first | rfl | (simp; done) | (simp [*]; done)), H', ⟨Nat.le_refl _⟩, ⟨by (with_reducible repeat (first | apply Kd.R_alloc | apply Kd.R_drewN | apply Kd.R_drew)); exact HO_7.out⟩, ⟨by repeat (first | (with_reducible first | exact HB.out | apply below_alloc | apply pw_below_drewN | apply below_drew1) | exact HB.out)⟩⟩
            case round =>
              clear H'
              try clear c1
              try clear p1
              try clear q1
              try clear hx1
              try clear c2
              try clear p2
              try clear c3
              try clear c3b0
              try clear c3b1
              try clear p6
              try clear c7
              try clear c12
              try clear c12b0
              try clear c12b1
              try clear c13
              try clear c13b0
              try clear c13b1
              try clear c14
              try clear c14b0
              try clear c14b1
              try clear c14b2
              try clear c15
              try clear c15b0
              try clear c15b1
              try clear c17
              try clear c17b0
              try clear c18
              try clear c18b0
              try clear p19
              try clear q19
              try clear hx19
              try clear c20
              try clear c21
              try clear p1
              try clear p19
              try clear p2
              try clear p6
              try clear q1
              try clear q19
              obtain ⟨x10_2, x11_2, x12_2, x13_2, rfl, rfl, rfl, rfl, HA, HK2, HO_7, HB⟩ := hrel
              cases gk with
              | zero => exact absurd HA.out (by simp [depotlaw03_DimacsLong.l0])
              | succ k2 =>
                have H := HA.out
                clear HA
                simp only [depotlaw03_DimacsLong.l0] at H
                by_cases c22 : x13_2 < (t110.size : Int)
                · rw [if_pos c22] at H
                  have c22b0 : decide (x13_2 < (t110.size : Int)) = true := decide_eq_true c22
                  clear c22
                  by_cases c23 : 0 ≤ x13_2
                  · rw [if_pos c23] at H
                    have c23b0 : decide (0 ≤ x13_2) = true := decide_eq_true c23
                    clear c23
                    by_cases c25 : (bt t110 x13_2) = 10
                    · rw [if_pos c25] at H
                      have c25b0 : ((bt t110 x13_2) == 10) = true := beq_iff_eq.mpr c25
                      have c25b1 : ((bt t110 x13_2) != 10) = false := bne_eq_false_iff_eq.mpr c25
                      clear c25
                      have H' := Aside0.mk H
                      clear H
                      have p24 : 0 ≤ (x13_2 : Int) := of_decide_eq_true (by first | (with_reducible assumption) | assumption)
                      have q24 : x13_2 < (t110.size : Int) := of_decide_eq_true (by first | (with_reducible assumption) | assumption)
                      have hx24 := bt_at t110 x13_2
                      replace p24 := eq_true p24
                      replace q24 := eq_true q24
                      go_wp2
                      go_loopg [14, 15] k2 (fun kq v14 v15 w' => ∃ (x14_3 : Int) (x15_3 : Int), v14 = .int .i64 x14_3 ∧ v15 = .int .i64 x15_3 ∧ Aside0 (depotlaw03_DimacsLong.l1 kq l1 t110 t112 x10_2 x11_2 x12_2 x13_2 x14_3 x15_3 = some r) ∧ Aside0 (kq ≤ k2) ∧ Aside0 (Kd.R Kd.bool 4 w' w.heap.size (fun _ => True) v115 t112) ∧ Aside0 (Below w.heap.size w w'))
                      case atStart => exact ⟨(0), (wrap64 (x10_2 + 2)), (by first | rfl | (simp; done) | (simp [*]; done)), (by first | rfl | (simp; done) | (simp [*]; done)), H', ⟨Nat.le_refl _⟩, ⟨by (with_reducible repeat (first | apply Kd.R_alloc | apply Kd.R_drewN | apply Kd.R_drew)); exact HO_7.out⟩, ⟨by repeat (first | (with_reducible first | exact HB.out | apply below_alloc | apply pw_below_drewN | apply below_drew1) | exact HB.out)⟩⟩
                      case round =>
                        clear H'
                        try clear c1
                        try clear p1
                        try clear q1
                        try clear hx1
                        try clear c2
                        try clear p2
                        try clear q2
                        try clear hx2
                        try clear c3
                        try clear c3b0
                        try clear c3b1
                        try clear p6
                        try clear c7
                        try clear c12
                        try clear c12b0
                        try clear c12b1
                        try clear c13
                        try clear c13b0
                        try clear c13b1
                        try clear c14
                        try clear c14b0
                        try clear c14b1
                        try clear c14b2
                        try clear c15
                        try clear c15b0
                        try clear c15b1
                        try clear c17
                        try clear c17b0
                        try clear c18
                        try clear c18b0
                        try clear p19
                        try clear q19
                        try clear hx19
                        try clear c20
                        try clear c21
                        try clear c22
                        try clear c22b0
                        try clear c23
                        try clear c23b0
                        try clear c24
                        try clear p24
                        try clear q24
                        try clear hx24
                        try clear c25
                        try clear c25b0
                        try clear c25b1
                        try clear p1
                        try clear p19
                        try clear p2
                        try clear p24
                        try clear p6
                        try clear q1
                        try clear q19
                        try clear q24
                        obtain ⟨x14_3, x15_3, rfl, rfl, HA, HK3, HO_7, HB⟩ := hrel
                        cases gk with
                        | zero => exact absurd HA.out (by simp [depotlaw03_DimacsLong.l1])
                        | succ k3 =>
                          have H := HA.out
                          clear HA
                          simp only [depotlaw03_DimacsLong.l1] at H
                          by_cases c26 : x15_3 < x13_2
                          · rw [if_pos c26] at H
                            have c26b0 : decide (x15_3 < x13_2) = true := decide_eq_true c26
                            clear c26
                            by_cases c27 : 0 ≤ x15_3
                            · rw [if_pos c27] at H
                              have c27b0 : decide (0 ≤ x15_3) = true := decide_eq_true c27
                              clear c27
                              by_cases c28 : x15_3 < (t110.size : Int)
                              · rw [if_pos c28] at H
                                have c28b0 : decide (x15_3 < (t110.size : Int)) = true := decide_eq_true c28
                                clear c28
                                by_cases c30 : (bt t110 x15_3) = 32
                                · rw [if_pos c30] at H
                                  have c30b0 : ((bt t110 x15_3) == 32) = true := beq_iff_eq.mpr c30
                                  have c30b1 : ((bt t110 x15_3) != 32) = false := bne_eq_false_iff_eq.mpr c30
                                  clear c30
                                  by_cases c31 : (wrap64 (x13_2 - x10_2)) > 78
                                  · rw [if_pos c31] at H
                                    have c31b0 : decide (78 < (wrap64 (x13_2 - x10_2))) = true := decide_eq_true c31
                                    clear c31
                                    obtain rfl := Option.some.inj H
                                    have p29 : 0 ≤ (x15_3 : Int) := of_decide_eq_true (by first | (with_reducible assumption) | assumption)
                                    have q29 : x15_3 < (t110.size : Int) := of_decide_eq_true (by first | (with_reducible assumption) | assumption)
                                    have hx29 := bt_at t110 x15_3
                                    replace p29 := eq_true p29
                                    replace q29 := eq_true q29
                                    go_wp2
                                    go_ret
                                    exact ⟨by first | rfl | (simp [errW_none, errW_some] <;> rfl) | (simp [*, errW_none, errW_some] <;> rfl), by repeat (first | (with_reducible first | exact HB.out | apply below_alloc | apply pw_below_drewN | apply below_drew1) | exact HB.out)⟩
                                  · rw [if_neg c31] at H
                                    have c31b0 : decide (78 < (wrap64 (x13_2 - x10_2))) = false := decide_eq_false c31
                                    clear c31
                                    by_cases c32 : x12_2 > 1
                                    · rw [if_pos c32] at H
                                      have c32b0 : decide (1 < x12_2) = true := decide_eq_true c32
                                      clear c32
                                      by_cases c33 : (wrap64 ((wrap64 (x11_2 + 1)) + x14_3)) ≤ 78
                                      · rw [if_pos c33] at H
                                        have c33b0 : decide ((wrap64 ((wrap64 (x11_2 + 1)) + x14_3)) ≤ 78) = true := decide_eq_true c33
                                        clear c33
                                        obtain rfl := Option.some.inj H
                                        have p29 : 0 ≤ (x15_3 : Int) := of_decide_eq_true (by first | (with_reducible assumption) | assumption)
                                        have q29 : x15_3 < (t110.size : Int) := of_decide_eq_true (by first | (with_reducible assumption) | assumption)
                                        have hx29 := bt_at t110 x15_3
                                        replace p29 := eq_true p29
                                        replace q29 := eq_true q29
                                        go_wp2
                                        go_ret
                                        exact ⟨by first | rfl | (simp [errW_none, errW_some] <;> rfl) | (simp [*, errW_none, errW_some] <;> rfl), by repeat (first | (with_reducible first | exact HB.out | apply below_alloc | apply pw_below_drewN | apply below_drew1) | exact HB.out)⟩
                                      · rw [if_neg c33] at H
                                        have c33b0 : decide ((wrap64 ((wrap64 (x11_2 + 1)) + x14_3)) ≤ 78) = false := decide_eq_false c33
                                        clear c33
                                        have H' := Aside0.mk H
                                        clear H
                                        have p29 : 0 ≤ (x15_3 : Int) := of_decide_eq_true (by first | (with_reducible assumption) | assumption)
                                        have q29 : x15_3 < (t110.size : Int) := of_decide_eq_true (by first | (with_reducible assumption) | assumption)
                                        have hx29 := bt_at t110 x15_3
                                        replace p29 := eq_true p29
                                        replace q29 := eq_true q29
                                        go_wp2
                                        go_roundg k3
                                        case measure => have := HJ6.out; have := HK2.out; have := HK3.out; omega
                                        case rel => exact ⟨(wrap64 (x13_2 + 1)), (wrap64 (x13_2 - x10_2)), (wrap64 (x12_2 + 1)), (wrap64 (x13_2 + 1)), (by first | rfl | (simp; done) | (simp [*]; done)), (by first | rfl | (simp; done) | (simp [*]; done)), (by first | rfl | (simp; done) | (simp [*]; done)), (by first | rfl | (simp; done) | (simp [*]; done)), H', ⟨by have := HJ6.out; have := HK2.out; have := HK3.out; omega⟩, ⟨by (with_reducible repeat (first | apply Kd.R_alloc | apply Kd.R_drewN | apply Kd.R_drew)); exact HO_7.out⟩, ⟨by repeat (first | (with_reducible first | exact HB.out | apply below_alloc | apply pw_below_drewN | apply below_drew1) | exact HB.out)⟩⟩
                                    · rw [if_neg c32] at H
                                      have c32b0 : decide (1 < x12_2) = false := decide_eq_false c32
                                      clear c32
                                      have H' := Aside0.mk H
                                      clear H
                                      have p29 : 0 ≤ (x15_3 : Int) := of_decide_eq_true (by first | (with_reducible assumption) | assumption)
                                      have q29 : x15_3 < (t110.size : Int) := of_decide_eq_true (by first | (with_reducible assumption) | assumption)
                                      have hx29 := bt_at t110 x15_3
                                      replace p29 := eq_true p29
                                      replace q29 := eq_true q29
                                      go_wp2
                                      go_roundg k3
                                      case measure => have := HJ6.out; have := HK2.out; have := HK3.out; omega
                                      case rel => exact ⟨(wrap64 (x13_2 + 1)), (wrap64 (x13_2 - x10_2)), (wrap64 (x12_2 + 1)), (wrap64 (x13_2 + 1)), (by first | rfl | (simp; done) | (simp [*]; done)), (by first | rfl | (simp; done) | (simp [*]; done)), (by first | rfl | (simp; done) | (simp [*]; done)), (by first | rfl | (simp; done) | (simp [*]; done)), H', ⟨by have := HJ6.out; have := HK2.out; have := HK3.out; omega⟩, ⟨by (with_reducible repeat (first | apply Kd.R_alloc | apply Kd.R_drewN | apply Kd.R_drew)); exact HO_7.out⟩, ⟨by repeat (first | (with_reducible first | exact HB.out | apply below_alloc | apply pw_below_drewN | apply below_drew1) | exact HB.out)⟩⟩
                                · rw [if_neg c30] at H
                                  have c30b0 : ((bt t110 x15_3) == 32) = false := beq_eq_false_iff_ne.mpr c30
                                  have c30b1 : ((bt t110 x15_3) != 32) = true := bne_iff_ne.mpr c30
                                  have H' := Aside0.mk H
                                  clear H
                                  have p29 : 0 ≤ (x15_3 : Int) := of_decide_eq_true (by first | (with_reducible assumption) | assumption)
                                  have q29 : x15_3 < (t110.size : Int) := of_decide_eq_true (by first | (with_reducible assumption) | assumption)
                                  have hx29 := bt_at t110 x15_3
                                  replace p29 := eq_true p29
                                  replace q29 := eq_true q29
                                  go_wp2
                                  go_roundg k3
                                  case measure => have := HJ6.out; have := HK2.out; have := HK3.out; omega
                                  case rel => exact ⟨(wrap64 (x14_3 + 1)), (wrap64 (x15_3 + 1)), (by first | rfl | (simp; done) | (simp [*]; done)), (by first | rfl | (simp; done) | (simp [*]; done)), H', ⟨by have := HJ6.out; have := HK2.out; have := HK3.out; omega⟩, ⟨by (with_reducible repeat (first | apply Kd.R_alloc | apply Kd.R_drewN | apply Kd.R_drew)); exact HO_7.out⟩, ⟨by repeat (first | (with_reducible first | exact HB.out | apply below_alloc | apply pw_below_drewN | apply below_drew1) | exact HB.out)⟩⟩
                              · rw [if_neg c28] at H
                                exact absurd H (by simp)
                            · rw [if_neg c27] at H
                              exact absurd H (by simp)
                          · rw [if_neg c26] at H
                            have c26b0 : decide (x15_3 < x13_2) = false := decide_eq_false c26
                            clear c26
                            by_cases c34 : (wrap64 (x13_2 - x10_2)) > 78
                            · rw [if_pos c34] at H
                              have c34b0 : decide (78 < (wrap64 (x13_2 - x10_2))) = true := decide_eq_true c34
                              clear c34
                              obtain rfl := Option.some.inj H
                              go_wp2
                              go_ret
                              exact ⟨by first | rfl | (simp [errW_none, errW_some] <;> rfl) | (simp [*, errW_none, errW_some] <;> rfl), by repeat (first | (with_reducible first | exact HB.out | apply below_alloc | apply pw_below_drewN | apply below_drew1) | exact HB.out)⟩
                            · rw [if_neg c34] at H
                              have c34b0 : decide (78 < (wrap64 (x13_2 - x10_2))) = false := decide_eq_false c34
                              clear c34
                              by_cases c35 : x12_2 > 1
                              · rw [if_pos c35] at H
                                have c35b0 : decide (1 < x12_2) = true := decide_eq_true c35
                                clear c35
                                by_cases c36 : (wrap64 ((wrap64 (x11_2 + 1)) + x14_3)) ≤ 78
                                · rw [if_pos c36] at H
                                  have c36b0 : decide ((wrap64 ((wrap64 (x11_2 + 1)) + x14_3)) ≤ 78) = true := decide_eq_true c36
                                  clear c36
                                  obtain rfl := Option.some.inj H
                                  go_wp2
                                  go_ret
                                  exact ⟨by first | rfl | (simp [errW_none, errW_some] <;> rfl) | (simp [*, errW_none, errW_some] <;> rfl), by repeat (first | (with_reducible first | exact HB.out | apply below_alloc | apply pw_below_drewN | apply below_drew1) | exact HB.out)⟩
                                · rw [if_neg c36] at H
                                  have c36b0 : decide ((wrap64 ((wrap64 (x11_2 + 1)) + x14_3)) ≤ 78) = false := decide_eq_false c36
                                  clear c36
                                  have H' := Aside0.mk H
                                  clear H
                                  go_wp2
                                  go_roundg k3
                                  case measure => have := HJ6.out; have := HK2.out; have := HK3.out; omega
                                  case rel => exact ⟨(wrap64 (x13_2 + 1)), (wrap64 (x13_2 - x10_2)), (wrap64 (x12_2 + 1)), (wrap64 (x13_2 + 1)), (by first | rfl | (simp; done) | (simp [*]; done)), (by first | rfl | (simp; done) | (simp [*]; done)), (by first | rfl | (simp; done) | (simp [*]; done)), (by first | rfl | (simp; done) | (simp [*]; done)), H', ⟨by have := HJ6.out; have := HK2.out; have := HK3.out; omega⟩, ⟨by (with_reducible repeat (first | apply Kd.R_alloc | apply Kd.R_drewN | apply Kd.R_drew)); exact HO_7.out⟩, ⟨by repeat (first | (with_reducible first | exact HB.out | apply below_alloc | apply pw_below_drewN | apply below_drew1) | exact HB.out)⟩⟩
                              · rw [if_neg c35] at H
                                have c35b0 : decide (1 < x12_2) = false := decide_eq_false c35
                                clear c35
                                have H' := Aside0.mk H
                                clear H
                                go_wp2
                                go_roundg k3
                                case measure => have := HJ6.out; have := HK2.out; have := HK3.out; omega
                                case rel => exact ⟨(wrap64 (x13_2 + 1)), (wrap64 (x13_2 - x10_2)), (wrap64 (x12_2 + 1)), (wrap64 (x13_2 + 1)), (by first | rfl | (simp; done) | (simp [*]; done)), (by first | rfl | (simp; done) | (simp [*]; done)), (by first | rfl | (simp; done) | (simp [*]; done)), (by first | rfl | (simp; done) | (simp [*]; done)), H', ⟨by have := HJ6.out; have := HK2.out; have := HK3.out; omega⟩, ⟨by (with_reducible repeat (first | apply Kd.R_alloc | apply Kd.R_drewN | apply Kd.R_drew)); exact HO_7.out⟩, ⟨by repeat (first | (with_reducible first | exact HB.out | apply below_alloc | apply pw_below_drewN | apply below_drew1) | exact HB.out)⟩⟩
                    · rw [if_neg c25] at H
                      have c25b0 : ((bt t110 x13_2) == 10) = false := beq_eq_false_iff_ne.mpr c25
                      have c25b1 : ((bt t110 x13_2) != 10) = true := bne_iff_ne.mpr c25
                      have H' := Aside0.mk H
                      clear H
                      have p24 : 0 ≤ (x13_2 : Int) := of_decide_eq_true (by first | (with_reducible assumption) | assumption)
                      have q24 : x13_2 < (t110.size : Int) := of_decide_eq_true (by first | (with_reducible assumption) | assumption)
                      have hx24 := bt_at t110 x13_2
                      replace p24 := eq_true p24
                      replace q24 := eq_true q24
                      go_wp2
                      go_roundg k2
                      case measure => have := HJ6.out; have := HK2.out; omega
                      case rel => exact ⟨(x10_2), (x11_2), (x12_2), (wrap64 (x13_2 + 1)), (by first | rfl | (simp; done) | (simp [*]; done)), (by first | rfl | (simp; done) | (simp [*]; done)), (by first | rfl | (simp; done) | (simp [*]; done)), (by first | rfl | (simp; done) | (simp [*]; done)), H', ⟨by have := HJ6.out; have := HK2.out; omega⟩, ⟨by (with_reducible repeat (first | apply Kd.R_alloc | apply Kd.R_drewN | apply Kd.R_drew)); exact HO_7.out⟩, ⟨by repeat (first | (with_reducible first | exact HB.out | apply below_alloc | apply pw_below_drewN | apply below_drew1) | exact HB.out)⟩⟩
                  · rw [if_neg c23] at H
                    exact absurd H (by simp)
                · rw [if_neg c22] at H
                  have c22b0 : decide (x13_2 < (t110.size : Int)) = false := decide_eq_false c22
                  clear c22
                  replace H := Option.bind_eq_some_iff.mp H
                  obtain ⟨t117, A370, H⟩ := H
                  replace H : (some t117) = some r := H
                  have A37 := Aside0.mk A370
                  clear A370
                  obtain rfl := Option.some.inj H
                  obtain ⟨Ao38, co38, eo38⟩ := Kd.R_slice HO_7.out
                  subst eo38
                  go_wp2_with (first | ((with_reducible refine gate_callee (f := 25) rfl ?_); refine goesL_ (some 108) rfl rfl Tryd.func25 (by kernel_rfl) rfl #[.slice A1 l1.length c1, .slice Ao38 t112.length co38] rfl (by (try simp only [List.map_toArray, List.map_cons, List.map_nil]); first | done | rfl | (simp only [List.length_drop, List.length_take]; rfl)) ?_; (with_reducible refine (depotref00_SameBools.calls k2 _ _ l1 _ _ t112 t117 _ ?side1 ?side2 ?side3 ?side4 A37.out).mono ?_); (case side1 => repeat (first | exact (Kd.C_below HR1.out HB.out) | (with_reducible refine Kd.C_alloc ?_ _) | (with_reducible refine Kd.C_drewN ?_ _) | (with_reducible refine Kd.C_drew ?_))); (case side2 => exact HC1.out); (case side3 => repeat (first | exact (Kd.R_reads' HO_7.out).2.2 | (with_reducible refine Kd.C_alloc ?_ _) | (with_reducible refine Kd.C_drewN ?_ _) | (with_reducible refine Kd.C_drew ?_))); (case side4 => exact (Kd.R_reads' HO_7.out).2.1); rintro e w' ⟨rfl, ⟨nd, rfl⟩⟩; refine ⟨_, rfl, ?_⟩))
                  go_ret
                  exact ⟨by first | rfl | (simp [errW_none, errW_some] <;> rfl) | (simp [*, errW_none, errW_some] <;> rfl), by repeat (first | (with_reducible first | exact HB.out | apply below_alloc | apply pw_below_drewN | apply below_drew1) | exact HB.out)⟩
          · replace c21 := Bool.eq_false_iff.mpr c21
            subst c21
            have H1 : (some ((t112.length : Int) == 0)) = some r := by rw [if_neg (show ¬ (false = true) by decide)] at H; exact H
            clear H
            have H := H1
            clear H1
            obtain rfl := Option.some.inj H
            obtain ⟨Ao39, co39, eo39⟩ := Kd.R_slice HO_7.out
            subst eo39
            go_wp2
            go_ret
            exact ⟨by first | rfl | (simp [errW_none, errW_some] <;> rfl) | (simp [*, errW_none, errW_some] <;> rfl), by repeat (first | (with_reducible first | exact HB.out | apply below_alloc | apply pw_below_drewN | apply below_drew1) | exact HB.out)⟩

end Go.Proofs.YtejdjmcdlbcmeaaDoor.T
